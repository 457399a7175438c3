/- What is left of a code without what is not reached: the program's walk. -/
import Derived.Test.YtmnkgcjbckamnaaGreatDrop1
import Derived.Deep.DeepCutAuto
import Derived.Deep.RegionHeld3
import Derived.Deep.QuietTactic
import Derived.BigQuiet
import Derived.BigGuardPart
set_option linter.unusedVariables false
set_option linter.unusedSimpArgs false
set_option maxRecDepth 100000
namespace Go.Proofs.YtmnkgcjbckamnaaGreat
open Go.RowKit
attribute [local irreducible] wpList
theorem rows_in {rows : List Row} {m : Int} (h : rowsB rows m = true) {k : Nat} (hk : k < rows.length) : (0 ≤ rows[k].1 ∧ rows[k].1 ≤ m) ∧ (0 ≤ rows[k].2.1 ∧ rows[k].2.1 ≤ m) ∧ (0 ≤ rows[k].2.2 ∧ rows[k].2.2 < m) := by
  have h1 := List.all_eq_true.1 h k (List.mem_range.2 hk)
  rw [rowAt_eq hk rfl] at h1
  have h0 := endOf_ge h k (by omega)
  unfold rowOk at h1
  simp only [Bool.and_eq_true, decide_eq_true_eq] at h1
  obtain ⟨⟨⟨a, b⟩, c⟩, d⟩ := h1
  have := inB_iff.1 d
  omega
theorem src_new {w : World} {cs : List Value} {t : TypeId} {g size : Nat} (hg : w.heap.size = g) (hl : cs.length = size) : Src (w.alloc (.cells cs.toArray t)) size (some ⟨g, 0, none⟩) 1 cs :=
  ⟨by rw [hl, Nat.one_mul], (fun h => by cases h), fun ad e j u hu => by injection e with e; subst e; exact cells_new w cs t hg j u hu⟩
theorem places_cell {w : World} {gp n q : Nat} {H : List Int} (h : OwnSl intR w 3 [gp] (.slice (some ⟨gp, 0, none⟩) n n) (places H n)) (hq : q < n) : w.cell? ⟨gp, q, none⟩ = some (.int .i64 (plN H q)) := by
  obtain ⟨bp, op, hAe, _, _, hcp, _⟩ := h.sl.int_at hq
  injection hAe with hAe
  injection hAe with ea eb _
  subst ea
  subst eb
  rwa [Nat.zero_add, places_at hq] at hcp
theorem dropRows_yes {h : List Int} {rows : List Row} {k a0 a1 a2 : Nat} (hk : k < rows.length) (e : rows[k] = ((a0 : Int), (a1 : Int), (a2 : Int))) (hp : plN h a0 < plN h a1) : dropRows h (rows.take (k + 1)) = dropRows h (rows.take k) ++ [((plN h a0 : Int), (plN h a1 : Int), (plN h a2 : Int))] := by
  rw [dropRows_succ hk, e, if_pos (by show (plN h a0 : Int) < (plN h a1 : Int); omega)]; rfl
theorem dropRows_no {h : List Int} {rows : List Row} {k a0 a1 a2 : Nat} (hk : k < rows.length) (e : rows[k] = ((a0 : Int), (a1 : Int), (a2 : Int))) (hp : ¬ plN h a0 < plN h a1) : dropRows h (rows.take (k + 1)) = dropRows h (rows.take k) := by
  rw [dropRows_succ hk, e, if_neg (by show ¬ (plN h a0 : Int) < (plN h a1 : Int); omega), List.append_nil]
theorem blk_frozen {w : World} {b : Nat} {cs : Array Value} {t : TypeId} (h : w.heap[b]? = some (.cells cs t)) (j : Nat) : w.frozen? ⟨b, j, none⟩ = false := by simp [World.frozen?, h]
theorem blk_size {w : World} {b : Nat} {o : Obj} (h : w.heap[b]? = some o) : b < w.heap.size := (Array.getElem?_eq_some_iff.1 h).1
theorem DSt.new {w5 : World} {B X : Nat} {T : TypeId} (hX : w5.heap.size = X) (hB : B ≤ X) {v2 : Value} {ls : List Int} {x0 x1 : Int} (r2 : IntRow w5 B v2 ls) :
    DSt (w5.alloc (.cells #[.int .i64 x0, .int .i64 x1, v2, .slice none 0 0, .slice none 0 0] T)) B X x0 x1 v2 (.slice none 0 0) (.slice none 0 0) ls [] [] := by
  subst hX
  have hb : Below w5.heap.size w5 (w5.alloc (.cells #[.int .i64 x0, .int .i64 x1, v2, .slice none 0 0, .slice none 0 0] T)) := Below.alloc (Below.refl _ _) (Nat.le_refl _) _
  refine ⟨by simp [go_sem], by simp [go_sem], by simp [go_sem], by simp [go_sem], by simp [go_sem], fun j => by simp [go_sem], hB, ⟨r2.below hb, InsRow.nil_ _ _, by unfold RowsRow; simpa [encL] using World.ownsRow_nil _ _ _ _, (fun _ _ h => by cases h), (fun _ _ h => by cases h), (fun _ h => by cases h)⟩, fun e => ?_, fun h => (by cases h), fun h => (by cases h)⟩
  have := (World.ownsRow.lt r2 _ e).2
  omega
theorem DSt.new2 {w5 : World} {B B2 X : Nat} {v2 q0 q1 q2 q3 q4 : Value} {ls : List Int} {x0 x1 : Int} (e0 : w5.cell? ⟨X, 0, none⟩ = some q0) (e1 : w5.cell? ⟨X, 1, none⟩ = some q1) (e2 : w5.cell? ⟨X, 2, none⟩ = some q2) (e3 : w5.cell? ⟨X, 3, none⟩ = some q3) (e4 : w5.cell? ⟨X, 4, none⟩ = some q4) (xf : ∀ j, w5.frozen? ⟨X, j, none⟩ = false)
    (hB : B ≤ X) (h2 : X < B2) (r2 : IntRow w5 B2 v2 ls) :
    DSt (((((w5.setCell ⟨X, 0, none⟩ (.int .i64 x0)).setCell ⟨X, 1, none⟩ (.int .i64 x1)).setCell ⟨X, 2, none⟩ v2).setCell ⟨X, 3, none⟩ (.slice none 0 0)).setCell ⟨X, 4, none⟩ (.slice none 0 0)) B X x0 x1 v2 (.slice none 0 0) (.slice none 0 0) ls [] [] := by
  have hk : ∀ k, ¬ k = X → (((((w5.setCell ⟨X, 0, none⟩ (.int .i64 x0)).setCell ⟨X, 1, none⟩ (.int .i64 x1)).setCell ⟨X, 2, none⟩ v2).setCell ⟨X, 3, none⟩ (.slice none 0 0)).setCell ⟨X, 4, none⟩ (.slice none 0 0)).heap[k]? = w5.heap[k]? := fun k g => by
    rw [Below.heap_setCell _ _ _ _ g, Below.heap_setCell _ _ _ _ g, Below.heap_setCell _ _ _ _ g, Below.heap_setCell _ _ _ _ g, Below.heap_setCell _ _ _ _ g]
  have hr := World.ownsRow.lt r2
  refine ⟨by simp [go_sem, e0], by simp [go_sem, e1], by simp [go_sem, e2], by simp [go_sem, e3], by simp [go_sem, e4], fun j => by simp [go_sem, xf], hB, ⟨?_, InsRow.nil_ _ _, by unfold RowsRow; simpa [encL] using World.ownsRow_nil _ _ _ _, (fun _ _ h => by cases h), (fun _ _ h => by cases h), (fun _ h => by cases h)⟩, fun e => ?_, fun h => (by cases h), fun h => (by cases h)⟩
  · exact (r2.keepR (w' := _) fun k a b e => hk k (by omega)).mono (by omega)
  · have := (hr _ e).1; omega
set_option maxHeartbeats 16000000 in
theorem implDropDead1 (w : World) (lo hi : Nat) (A : Option Addr) (n c : Nat) (x : List Code) (j : Nat) (h : Sl CodeR w lo hi A n c x) (hh : hi ≤ w.heap.size) (hj : j < n) (hz : ∀ c ∈ x, codeSz c = true) (hc : codeF x (x[j]'(by have := h.lenEq; omega)) = 0)
    (z0 z1 : Int) (t2 : List Int) (t3 : List Ins) (t4 : List Row) (hx : x[j]'(by have := h.lenEq; omega) = (z0, z1, t2, t3, t4)) (H : List Int) (hH : checkH x (x[j]'(by have := h.lenEq; omega)) = H) :
    Calls Tryz.prog 47 #[.agg #[.slice A n c], .int .i64 j] w (RetCd z0 z1 t2 (dropK (patI H) t3 H t3.length) (dropRows H t4) w) := by
  have hjx : j < x.length := by have := h.lenEq; omega
  obtain ⟨bc, oc, y0, y1, D2, m2, d2, u2, D3, m3, d3, u3, D4, m4, d4, u4, rfl, _, hbb, hlc, _, _, kS2, kS3, kS4, v0, v1, v2, v3, v4⟩ := Code_at h hj
  have hsz := codeSz_len (hz _ (List.getElem_mem hjx))
  have hln := checkH_len hc
  obtain ⟨_, hgo, hrw, _⟩ := codeF_0 hc
  have HZ := Lib.hid hz
  have HC := Lib.hid hc
  have HX := Lib.hid hx
  have HH := Lib.hid hH
  rw [hx] at hlc
  simp only [Prod.mk.injEq] at hlc
  obtain ⟨rfl, rfl, rfl, rfl, rfl⟩ := hlc
  rw [hH] at hln
  rw [hx] at hsz hln hgo hrw
  simp only at hsz hln hgo hrw
  have l2 := kS2.lenEq
  have l3 := kS3.lenEq
  have l4 := kS4.lenEq
  have hn2 : m2 ≤ 4 := by omega
  have hn3 : m3 ≤ 300 := by omega
  have hn4 : m4 ≤ 300 := by omega
  have hHL := Lib.hid (show H.length = m3 by omega)
  have L2 := Lib.hid l2
  have L3 := Lib.hid l3
  have L4 := Lib.hid l4
  have hl64 := Lib.hid hln.2
  have HGO := Lib.hid hgo
  have HRW := Lib.hid hrw
  have hjI : (j : Int) < (n : Int) := by omega
  have hbbw : bc < w.heap.size := by omega
  obtain ⟨i0, hi0, hz0, hz1, hz2⟩ := info_parts Tryz.infoInt
  clear hsz hln hgo hrw l2 l3 l4 hz hc hx hH
  go_enter Tryz.func47, Tryz.ntmps47
  go_upto_region 2 with fail
  obtain ⟨V, hV⟩ : ∃ V, V = ((w.alloc (.cells #[.slice (some ⟨bc, oc, none⟩) n c] 35)).alloc (.cells #[.int .i64 0, .int .i64 0, .slice none 0 0, .slice none 0 0, .slice none 0 0] 30)).alloc (.cells #[.int .i64 z0, .int .i64 z1, .slice D2 m2 d2, .slice D3 m3 d3, .slice D4 m4 d4] 30) := ⟨_, rfl⟩
  have hbV : Below w.heap.size w V := by rw [hV]; (repeat (first | with_reducible exact Below.refl _ _ | with_reducible assumption | with_reducible refine below_alloc ?_ _ | ((with_reducible refine Below.setCell ?_ ?_ _); rotate_left; (· first | exact Nat.le_refl _ | (simp; done) | (simp; omega))) | with_reducible refine below_drewN ?_ _ | with_reducible refine Below.drew ?_ | with_reducible refine below_then ?_ (by with_reducible assumption)))
  have hzV : w.heap.size + 3 ≤ V.heap.size := by rw [hV]; simp
  have hX := Lib.hid (show ∀ V' G, Fr G V V' → (∀ g, g ∈ G → V.heap.size ≤ g) → V'.cell? ⟨w.heap.size, 0, none⟩ = some (.slice (some ⟨bc, oc, none⟩) n c) ∧ V'.cell? ⟨w.heap.size + 2, 0, none⟩ = some (.int .i64 z0) ∧ V'.cell? ⟨w.heap.size + 2, 1, none⟩ = some (.int .i64 z1) ∧ V'.cell? ⟨w.heap.size + 2, 2, none⟩ = some (.slice D2 m2 d2) ∧ V'.cell? ⟨w.heap.size + 2, 3, none⟩ = some (.slice D3 m3 d3) ∧ V'.cell? ⟨w.heap.size + 2, 4, none⟩ = some (.slice D4 m4 d4) from (fun V' G hV' hG => by
    refine ⟨cell_fr hV' (fun hm => by have := hG _ hm; omega) ?_, cell_fr hV' (fun hm => by have := hG _ hm; omega) ?_, cell_fr hV' (fun hm => by have := hG _ hm; omega) ?_, cell_fr hV' (fun hm => by have := hG _ hm; omega) ?_, cell_fr hV' (fun hm => by have := hG _ hm; omega) ?_, cell_fr hV' (fun hm => by have := hG _ hm; omega) ?_⟩ <;> (rw [hV]; simp [go_sem])))
  have hR := Lib.hid (show ∀ V' G, Fr G V V' → (∀ g, g ∈ G → V.heap.size ≤ g) → V'.cell? ⟨w.heap.size + 1, 0, none⟩ = some (.int .i64 0) ∧ V'.cell? ⟨w.heap.size + 1, 1, none⟩ = some (.int .i64 0) ∧ V'.cell? ⟨w.heap.size + 1, 2, none⟩ = some (.slice none 0 0) ∧ V'.cell? ⟨w.heap.size + 1, 3, none⟩ = some (.slice none 0 0) ∧ V'.cell? ⟨w.heap.size + 1, 4, none⟩ = some (.slice none 0 0) ∧ ∀ i, V'.frozen? ⟨w.heap.size + 1, i, none⟩ = false from (fun V' G hV' hG => by
    refine ⟨cell_fr hV' (fun hm => by have := hG _ hm; omega) ?_, cell_fr hV' (fun hm => by have := hG _ hm; omega) ?_, cell_fr hV' (fun hm => by have := hG _ hm; omega) ?_, cell_fr hV' (fun hm => by have := hG _ hm; omega) ?_, cell_fr hV' (fun hm => by have := hG _ hm; omega) ?_, fun i => frozen_fr hV' (fun hm => by have := hG _ hm; omega) (by omega) ?_⟩ <;> (rw [hV]; simp [go_sem])))
  rw [← hV]
  clear hV v0 v1 v2 v3 v4
  obtain ⟨sx, s0, s1, s2, s3, s4⟩ := hX.out V [] (Fr.refl _ _) (by simp)
  go_wp2_with fail
  refine (implCheckCode _ lo hi (some ⟨bc, oc, none⟩) n c x j (h.below hbV hh) (by omega) hj HZ.out).mono ?_
  rintro e w3 ⟨A5, n5, c5, rfl, hI, hb3⟩
  rw [HH.out] at hI
  have hS := hI.sl hl64.out
  have hL5 := Lib.hid hS.lenEq
  have hn5 : n5 = m3 := by have := hL5.out; have := hHL.out; omega
  subst hn5
  generalize codeF x (x[j]'hjx) = vz
  clear hI HC sx s0 s1 s2 s3 s4
  have hz3 := hb3.size
  obtain ⟨sx, s0, s1, s2, s3, s4⟩ := hX.out w3 [] (Fr.of_below hb3) (by simp)
  go_wp2_with (at_make; refine wpList_make_full _ rfl _ _ 26 rfl 0 3 i0 (.int .i64 0) 1 Tryz.underlying26 hi0 hz0 hz1 _ _ _ _ (n5 + 1) rfl rfl rfl rfl (by rw [hz2]; omega) (by unfold maxLen; omega) (Nat.zero_le _) ?_)
  intro w4 hown hg
  have hF := Fill.start (R := intR) hown
  have hb4 : Below w3.heap.size w3 w4 := (Below.refl _ _).grown hg (Nat.le_refl _) (fun k hk => by cases hk)
  obtain ⟨gp, hgp⟩ : ∃ g, g = w3.heap.size := ⟨_, rfl⟩
  have hgw := hF.lt w3.heap.size (by simp)
  rw [← hgp] at hF hgw ⊢
  have hgV : V.heap.size ≤ gp := by omega
  have hw3g : w3.heap.size ≤ gp := by omega
  have hx4 : Below V.heap.size V w4 := hb3.trans (hb4.mono hz3)
  have hS4 := hS.below hb4 (Nat.le_refl _)
  clear hown hg sx s0 s1 s2 s3 s4 hgp
  obtain ⟨sx, s0, s1, s2, s3, s4⟩ := hX.out w4 [] (Fr.of_below hx4) (by simp)
  have hS4s := Lib.hid (show ∀ V', Below w4.heap.size w4 V' → V'.cell? ⟨w.heap.size + 2, 0, none⟩ = some (.int .i64 z0) ∧ V'.cell? ⟨w.heap.size + 2, 1, none⟩ = some (.int .i64 z1) ∧ V'.cell? ⟨w.heap.size + 2, 2, none⟩ = some (.slice D2 m2 d2) from fun V' hV => ⟨below_cell hV s0, below_cell hV s1, below_cell hV s2⟩)
  go_upto_region 4 with fail
  go_cut [9] (fun s wx => ∃ X A n2' c2', s = .pointer (some ⟨X, 0, none⟩) ∧ DSt wx w4.heap.size X z0 z1 (.slice A n2' c2') (.slice none 0 0) (.slice none 0 0) t2 [] [] ∧ Below w4.heap.size w4 wx)
  case first =>
    as_aux_lemma =>
      go_region_held3 (fun V' => V'.cell? ⟨w.heap.size + 2, 0, none⟩ = some (.int .i64 z0) ∧ V'.cell? ⟨w.heap.size + 2, 1, none⟩ = some (.int .i64 z1) ∧ V'.cell? ⟨w.heap.size + 2, 2, none⟩ = some (.slice D2 m2 d2)) (exact hS4s.out _ (show Below w4.heap.size w4 _ by (repeat (first | with_reducible exact Below.refl _ _ | with_reducible assumption | with_reducible refine below_alloc ?_ _ | ((with_reducible refine Below.setCell ?_ ?_ _); rotate_left; (· first | exact Nat.le_refl _ | omega | (simp; done) | (simp; omega))) | with_reducible refine below_drewN ?_ _ | with_reducible refine Below.drew ?_ | with_reducible refine below_then ?_ (by with_reducible assumption)))))
        (first | (go_at_call 95; ((with_reducible refine (cloneIntsR _ lo hi D2 m2 d2 t2 (kS2.below (below_then hbV (below_then hx4 (show Below w4.heap.size w4 _ by (repeat (first | with_reducible exact Below.refl _ _ | with_reducible assumption | with_reducible refine below_alloc ?_ _ | ((with_reducible refine Below.setCell ?_ ?_ _); rotate_left; (· first | exact Nat.le_refl _ | (simp; done) | (simp; omega))) | with_reducible refine below_drewN ?_ _ | with_reducible refine Below.drew ?_ | with_reducible refine below_then ?_ (by with_reducible assumption)))))) hh) (by first | omega | (simp; done) | (simp; omega)) (by omega)).mono ?_); rintro e w5 ⟨v2, rfl, r2, b2⟩; have bb : Below w4.heap.size w4 w5 := (by (repeat (first | with_reducible exact Below.refl _ _ | with_reducible assumption | with_reducible refine below_alloc ?_ _ | ((with_reducible refine Below.setCell ?_ ?_ _); rotate_left; (· first | exact Nat.le_refl _ | (simp; done) | (simp; omega))) | with_reducible refine below_drewN ?_ _ | with_reducible refine Below.drew ?_ | with_reducible refine below_then ?_ (by with_reducible assumption)))); have z5 := bb.size; obtain ⟨A6, n6, c6, rfl, m6⟩ := r2.form; clear m6; (first | (have xa := below_at b2 (by simp) (alloc_new' (w := w4.drew) (X := w4.heap.size) rfl); obtain ⟨e0, e1, e2, e3, e4⟩ := five_cells xa; have xf := blk_frozen xa; have xz := blk_size xa) | skip))))
      · go_wp2_with fail
        go_meet
        case rel => exact ⟨_, _, _, _, rfl, DSt.new (B := w4.heap.size) rfl z5 r2, by (repeat (first | with_reducible exact Below.refl _ _ | with_reducible assumption | with_reducible refine below_alloc ?_ _ | ((with_reducible refine Below.setCell ?_ ?_ _); rotate_left; (· first | exact Nat.le_refl _ | omega | (simp; done) | (simp; omega))) | with_reducible refine below_drewN ?_ _ | with_reducible refine Below.drew ?_ | with_reducible refine below_then ?_ (by with_reducible assumption)))⟩
      · have r3 := r2.mono (b' := w4.heap.size + 1) (by simp)
        go_wp2_with fail
        go_meet
        case rel => exact ⟨_, _, _, _, rfl, DSt.new2 e0 e1 e2 e3 e4 xf (Nat.le_refl _) (Nat.lt_succ_self _) r3, by (repeat (first | with_reducible exact Below.refl _ _ | with_reducible assumption | with_reducible refine below_alloc ?_ _ | ((with_reducible refine Below.setCell ?_ ?_ _); rotate_left; (· first | exact Nat.le_refl _ | omega | (simp; done) | (simp; omega))) | with_reducible refine below_drewN ?_ _ | with_reducible refine Below.drew ?_ | with_reducible refine below_then ?_ (by with_reducible assumption)))⟩
  case rest =>
    as_aux_lemma =>
      obtain ⟨X, A6, n6, c6, rfl, hD, hbc⟩ := hcut
      have hxc := below_then hx4 hbc
      have hSc := hS4.below hbc (by omega)
      have hFc := hF.below hbc
      have hzc := hbc.size
      have hXB := hD.hB
      have hXc := hD.lt
      clear hF hS4 hS sx s0 s1 s2 s3 s4 hS4s
      obtain ⟨sx, s0, s1, s2, s3, s4⟩ := hX.out wc [] (Fr.of_below hxc) (by simp)
      go_wp2_with fail
      clear sx s0 s1 s2 s3 s4
      go_loopw [44] (fun i wr => ∃ (k : Nat) (A7 : Option Addr) (c7 : Nat), k ≤ n5 ∧ i = .int .i64 k ∧ Fill intR wr 3 [gp] gp (n5 + 1) (places H k) ∧ DSt wr w4.heap.size X z0 z1 (.slice A6 n6 c6) (.slice A7 (plN H k) c7) (.slice none 0 0) t2 (dropK id t3 H k) [] ∧ (∀ g, (Value.slice A7 (plN H k) c7).ownBlock = some g → wc.heap.size ≤ g) ∧ Fr [gp, X] wc wr) (fun i _ => n5 - (intOf i).toNat)
      case atStart => exact ⟨0, none, 0, Nat.zero_le _, rfl, hFc, hD, (fun g h => by cases h), Fr.refl _ _⟩
      case round =>
        clear hFc hD
        obtain ⟨k, A7, c7, hk, rfl, hF, hD, hg7, hf⟩ := hrel
        obtain ⟨sx, s0, s1, s2, s3, s4⟩ := hX.out wr [gp, X] ((Fr.of_below hxc).trans hf) (by first | omega | (simp; done) | (simp; omega))
        have hXr := hD.lt
        have hfz := hf.size
        have hbw : Below w.heap.size w wr := below_fr (below_then hbV hxc) hf (by first | omega | (simp; done) | (simp; omega))
        have hSr := hSc.fr hf (by omega) (by first | omega | (simp; done) | (simp; omega))
        by_cases hlt : k < n5
        · obtain ⟨b3, o3, y0, y1, rfl, _, hb3l, hli, _, _, r0, r1⟩ := Ins_at (kS3.below hbw hh) hlt
          obtain ⟨bh, oh, rfl, _, hbhl, hch, _⟩ := hSr.int_at hlt
          have hkH : k < H.length := by have := hL5.out; omega
          have hkt : k < t3.length := by have := L3.out; omega
          have hli' := Lib.hid (show t3[k]'hkt = (y0, y1) from hli)
          obtain ⟨hv, HV⟩ : ∃ v, H[k]'hkH = v := ⟨_, rfl⟩
          rw [HV] at hch
          have hgr : gp < wr.heap.size := by omega
          obtain ⟨ug, hu0⟩ : ∃ u, wr.cell? ⟨gp, k, none⟩ = some u := by have := hF.cell' (places_len H k) (show k < n5 + 1 by omega) (j := 0) (by decide); rwa [show k * intR.size + 0 = k from Nat.mul_one k] at this
          have f0 := hF.frozen k
          have hst := hF.step (Fx := []) (cs := [.int .i64 (plN H k)]) (x := (plN H k : Int)) (by rw [places_len]; omega) ⟨rfl, rfl, by have := plN_le H k; unfold I64; omega⟩ (by simp)
          rw [places_len, show k * intR.size = k from Nat.mul_one k, ← places_succ] at hst
          have c3 := hD.k3
          clear hli s0 s1 s2 s4
          go_upto_region 9 with fail
          obtain ⟨W2, hW2⟩ : ∃ W2, W2 = (wr.setCell ⟨gp, k, none⟩ (.int .i64 (plN H k))).alloc (.cells #[.int .i64 y0, .int .i64 y1] 119) := ⟨_, rfl⟩
          have hf2 : Fr [gp] wr W2 := by rw [hW2]; (repeat (first | with_reducible exact Fr.refl _ _ | with_reducible assumption | ((with_reducible refine Fr.setCell ?_ ?_ _); rotate_left; (· first | (simp; done) | assumption | (simp; assumption))) | with_reducible refine Fr.drewN ?_ _ | with_reducible refine Fr.drew ?_ | with_reducible refine Fr.alloc ?_ _ | with_reducible refine Fr.trans ?_ (Fr.of_below (by with_reducible assumption))))
          have hz2' : wr.heap.size < W2.heap.size := by rw [hW2]; simp [World.setCell]
          have hD2 : DSt W2 w4.heap.size X z0 z1 (.slice A6 n6 c6) (.slice A7 (plN H k) c7) (.slice none 0 0) t2 (dropK id t3 H k) [] := hD.keep fun q h1 h2 => hf2.block q h2 (by simp; omega)
          have hF2 : Fill intR W2 3 [gp] gp (n5 + 1) (places H (k + 1)) := hst.keep fun q hq => by
            simp at hq
            subst hq
            rw [hW2]
            exact alloc_lt (by simp [World.setCell]; omega)
          have e0 : W2.cell? ⟨wr.heap.size, 0, none⟩ = some (.int .i64 y0) := by rw [hW2]; simp [go_sem, World.setCell]
          have e1 : W2.cell? ⟨wr.heap.size, 1, none⟩ = some (.int .i64 y1) := by rw [hW2]; simp [go_sem, World.setCell]
          have hch2 := cell_fr hf2 (by simp; omega) hch
          have hf3 : Fr [gp, X] wc W2 := hf.trans (hf2.more (by simp))
          rw [← hW2]
          clear hW2 hst hu0 f0 c3 hF hD hch r0 r1 sx s3
          have c3 := hD2.k3
          by_cases hp : 0 ≤ hv
          · have hdec : decide (hv ≥ 0) = true := by simpa using hp
            obtain ⟨inf, hif, hy0, hy1, hy2⟩ := info_parts Tryz.infoIns2
            have hown0 : W2.ownsRow w4.heap.size 119 2 (.slice A7 (plN H k) c7) (dropK id t3 H k).length (encL insV (dropK id t3 H k)) := hD2.cd.r3
            have hdl := dropK_len (g := id) (h := H) (I := t3) (by have := hL5.out; have := L3.out; omega) k (by omega)
            have hple := plN_le H k
            go_wp2_with (at_builtin; refine wpList_append_src _ rfl _ _ 27 rfl w4.heap.size 119 inf (.agg #[.int .i64 0, .int .i64 0]) 2 16 Tryz.underlying27 hif hy0 hy1 hy2 rfl (by decide) _ _ _ rfl (hown0.alloc _) (some ⟨W2.heap.size, 0, none⟩) 1 1 [.int .i64 y0, .int .i64 y1] rfl (src_new rfl rfl) (by simp [Value.oneCell']) (by unfold maxLen; omega) (by omega) (by simp; omega) ?_)
            intro v' w5 hown hgr' hat
            have hpl : plN H (k + 1) = plN H k + 1 := by rw [plN_step hkH, HV, if_pos hp]
            have hdk : dropK id t3 H (k + 1) = dropK id t3 H k ++ [(y0, y1)] := by
              rw [dropK_yes (by have := hL5.out; have := L3.out; omega) hkt (by rw [HV]; exact hp), hli'.out]; rfl
            have hr : InsRow w5 w4.heap.size v' (dropK id t3 H (k + 1)) := by
              unfold InsRow
              rw [hdk, List.length_append, hdl, encL_append]; exact hown
            obtain ⟨A8, n8, c8, rfl, h8⟩ := hr.form
            obtain rfl : n8 = plN H (k + 1) := by rw [h8, hdk, List.length_append, hdl, hpl]; rfl
            have hbX : w5.heap[X]? = W2.heap[X]? := (hgr'.block X (by simp; omega) (fun e => hD2.n3 e.symm)).trans (alloc_lt hD2.lt)
            have c3' := cell_same0 hbX hD2.k3
            have c3f := (World.frozen?_of_block (w := W2) (a := ⟨X, 3, none⟩) hbX).trans (hD2.kf 3)
            have hD5 := hD2.put3 (wm := W2.alloc (.cells #[.int .i64 y0, .int .i64 y1] 119)) (fun q _ h2 => alloc_lt h2) (by simp) hgr' hr (by rw [size_alloc]; exact hat)
            have hb7 := World.ownsRow.lt hown0
            have hF5 : Fill intR (w5.setCell ⟨X, 3, none⟩ (.slice A8 (plN H (k + 1)) c8)) 3 [gp] gp (n5 + 1) (places H (k + 1)) := hF2.keep fun q hq => by
              simp at hq
              subst hq
              rw [Below.heap_setCell _ _ _ _ (show q ≠ X by omega)]
              exact (hgr'.block q (by simp; omega) (fun e => by have := (hb7 q e.symm).1; omega)).trans (alloc_lt (by omega))
            have hf5 : Fr [gp, X] wc (w5.setCell ⟨X, 3, none⟩ (.slice A8 (plN H (k + 1)) c8)) := put_fr (v := .slice A7 (plN H k) c7) hf3 (show Fr [gp, X] W2 (W2.alloc (.cells #[.int .i64 y0, .int .i64 y1] 119)) by (repeat (first | with_reducible exact Fr.refl _ _ | with_reducible assumption | ((with_reducible refine Fr.setCell ?_ ?_ _); rotate_left; (· first | (simp; done) | assumption | (simp; assumption))) | with_reducible refine Fr.drewN ?_ _ | with_reducible refine Fr.drew ?_ | with_reducible refine Fr.alloc ?_ _ | with_reducible refine Fr.trans ?_ (Fr.of_below (by with_reducible assumption))))) hgr' hg7 (by simp)
            have hg8 : ∀ g, (Value.slice A8 (plN H (k + 1)) c8).ownBlock = some g → wc.heap.size ≤ g := by
              intro g e
              rcases hat with hat | hat
              · exact hg7 g (by rw [← hat]; exact e)
              · rw [hat] at e; injection e with e; have := hf3.size; omega
            clear hown hgr' hat hown0 hF2 hD2 hf3 hf2 hg7 hb7 hdk hr h8 hbX hpl hdl c3 e0 e1 hch2
            go_wp2_with fail
            go_roundw
            case rel => exact ⟨k + 1, A8, c8, by omega, by go_num, hF5, hD5, hg8, hf5⟩
            case measure => simp [intOf]; omega
          · have hdec : decide (hv ≥ 0) = false := by simpa using hp
            have hpl : plN H (k + 1) = plN H k := by rw [plN_step hkH, HV, if_neg hp, Nat.add_zero]
            have hdk : dropK id t3 H (k + 1) = dropK id t3 H k := dropK_no (by have := hL5.out; have := L3.out; omega) hkt (by rw [HV]; exact hp)
            have hD5 : DSt W2 w4.heap.size X z0 z1 (.slice A6 n6 c6) (.slice A7 (plN H (k + 1)) c7) (.slice none 0 0) t2 (dropK id t3 H (k + 1)) [] := by rw [hpl, hdk]; exact hD2
            have hg8 : ∀ g, (Value.slice A7 (plN H (k + 1)) c7).ownBlock = some g → wc.heap.size ≤ g := by rw [hpl]; exact hg7
            clear hpl hdk hD2 hg7
            go_wp2_with fail
            go_roundw
            case rel => exact ⟨k + 1, A7, c7, by omega, by go_num, hF2, hD5, hg8, hf3⟩
            case measure => simp [intOf]; omega
        · obtain rfl : k = n5 := by omega
          obtain ⟨ug, hu0⟩ : ∃ u, wr.cell? ⟨gp, k, none⟩ = some u := by have := hF.cell' (places_len H k) (show k < k + 1 by omega) (j := 0) (by decide); rwa [show k * intR.size + 0 = k from Nat.mul_one k] at this
          have f0 := hF.frozen k
          have hgr : gp < wr.heap.size := by omega
          have hst := hF.step (Fx := []) (cs := [.int .i64 (plN H k)]) (x := (plN H k : Int)) (by rw [places_len]; omega) ⟨rfl, rfl, by have := plN_le H k; unfold I64; omega⟩ (by simp)
          rw [places_len, show k * intR.size = k from Nat.mul_one k, ← places_succ] at hst
          have hO := hst.done (places_len H (k + 1))
          have hdl := dropK_len (g := id) (h := H) (I := t3) (by have := hL5.out; have := L3.out; omega) k (by have := L3.out; omega)
          obtain ⟨L, hL⟩ : ∃ L, dropK id t3 H k = L := ⟨_, rfl⟩
          obtain ⟨m, hm⟩ : ∃ m, plN H k = m := ⟨_, rfl⟩
          have hLin := Lib.hid (show ∀ i, i ∈ L → i ∈ t3 from fun i hi => by rw [← hL] at hi; obtain ⟨j, h1, rfl⟩ := dropK_mem hi; exact h1)
          have hmk : m ≤ k := by rw [← hm]; exact plN_le H k
          have HLk := Lib.hid (show dropK id t3 H t3.length = L by rw [← hL, L3.out])
          rw [hL] at hD hdl
          rw [hm] at hD hdl hO hg7
          have c3 := hD.k3
          clear s0 s1 s2 s4 hL
          go_upto_region 14 with fail
          clear hm
          obtain ⟨Wp, hWp⟩ : ∃ Wp, Wp = wr.setCell ⟨gp, k, none⟩ (.int .i64 m) := ⟨_, rfl⟩
          have hfp : Fr [gp] wr Wp := by rw [hWp]; (repeat (first | with_reducible exact Fr.refl _ _ | with_reducible assumption | ((with_reducible refine Fr.setCell ?_ ?_ _); rotate_left; (· first | (simp; done) | assumption | (simp; assumption))) | with_reducible refine Fr.drewN ?_ _ | with_reducible refine Fr.drew ?_ | with_reducible refine Fr.alloc ?_ _ | with_reducible refine Fr.trans ?_ (Fr.of_below (by with_reducible assumption))))
          have hOp : OwnSl intR Wp 3 [gp] (.slice (some ⟨gp, 0, none⟩) (k + 1) (k + 1)) (places H (k + 1)) := by rw [hWp]; exact hO
          have hDp : DSt Wp w4.heap.size X z0 z1 (.slice A6 n6 c6) (.slice A7 m c7) (.slice none 0 0) t2 L [] := hD.keep fun q h1 h2 => hfp.block q h2 (by simp; omega)
          have hfc : Fr [gp, X] wc Wp := hf.trans (hfp.more (by simp))
          have hbWp : Below w.heap.size w Wp := below_fr hbw (hfp) (by first | omega | (simp; done) | (simp; omega))
          have hVp : Fr [gp, X] V Wp := (Fr.of_below hxc).trans hfc
          have hzp := hfp.size
          rw [← hWp]
          clear hWp hO hst hu0 f0 c3 hF hD hSr sx s3 hfp hg7
          go_loopw [78] (fun i wr => ∃ q : Nat, q ≤ m ∧ i = .int .i64 q ∧ DSt wr w4.heap.size X z0 z1 (.slice A6 n6 c6) (.slice A7 m c7) (.slice none 0 0) t2 (patK H L q) [] ∧ Fr (Value.slice A7 m c7).ownBlock.toList Wp wr) (fun i _ => m - (intOf i).toNat)
          case atStart => exact ⟨0, Nat.zero_le _, rfl, by rw [patK_0]; exact hDp, Fr.refl _ _⟩
          case round =>
            have hr7 := World.ownsRow.lt hDp.cd.r3
            clear hDp
            obtain ⟨q, hq, rfl, hD, hf7⟩ := hrel
            have hz7 := hf7.size
            have hO7 : OwnSl intR wr 3 [gp] (.slice (some ⟨gp, 0, none⟩) (k + 1) (k + 1)) (places H (k + 1)) := hOp.fr hf7 (fun u hu hu' => by simp at hu hu'; subst hu; have := (hr7 _ hu').1; omega)
            by_cases hlt2 : q < m
            · have hqL : q < L.length := by omega
              obtain ⟨g, cap, hv⟩ := insRow_some hD.cd.r3 (show 0 < (patK H L q).length by rw [patK_len]; omega)
              injection hv with hv1 hv2 hv3
              subst hv1
              clear hv2 hv3
              have hgb := hr7 g rfl
              obtain ⟨r0, r1⟩ := insRow_at hD.cd.r3 (show q < (patK H L q).length by rw [patK_len]; exact hqL)
              rw [patK_at hqL] at r0 r1
              obtain ⟨⟨y0, y1⟩, HY⟩ : ∃ y, L[q]'hqL = y := ⟨_, rfl⟩
              rw [HY] at r0 r1
              simp only at r0 r1
              replace HY := Lib.hid HY
              have hgs : g < wr.heap.size := by omega
              by_cases hjj : isJ y0 = true
              · obtain ⟨jj, hjj1, hjj2⟩ := List.getElem_of_mem (hLin.out _ (List.getElem_mem hqL))
                have hin := jump_in HGO.out hjj1 (by rw [hjj2, HY.out]; exact hjj)
                rw [hjj2, HY.out, L3.out] at hin
                simp only at hin
                clear hjj2 hjj1 jj
                obtain ⟨q1, rfl⟩ : ∃ q1 : Nat, y1 = (q1 : Int) := ⟨y1.toNat, by omega⟩
                have hq1 : q1 < k + 1 := by omega
                obtain ⟨bp, op, hAe, _, _, hcp, _⟩ := hO7.sl.int_at hq1
                injection hAe with hAe
                injection hAe with ea eb _
                subst ea
                subst eb
                rw [Nat.zero_add, places_at hq1] at hcp
                have hq1I : (q1 : Int) < (k : Int) + 1 := by omega
                have hpt := hD.patch (show q < (patK H L q).length by rw [patK_len]; exact hqL) (plN H q1 : Int)
                have HS := Lib.hid (show (patK H L q).set q (((patK H L q)[q]'(by rw [patK_len]; exact hqL)).1, (plN H q1 : Int)) = patK H L (q + 1) by
                  rw [patK_at hqL, HY.out]
                  exact patK_set hqL (by rw [HY.out]; exact (patI_jump hjj).symm))
                rw [HS.out] at hpt
                have c3 := hD.k3
                have fz := insRow_fz hD.cd.r3 (q * 2 + 1)
                have hXr := hD.lt
                clear hin
                go_wp2_with fail
                refine (implJumps _ _).mono ?_
                rintro e w5 ⟨rfl, rfl⟩
                rw [hjj]
                go_wp2_with fail
                go_region
                all_goals
                  have hf7' : Fr [g] Wp wr := hf7
                  go_wp2_with fail
                  go_roundw
                  case rel => exact ⟨q + 1, by omega, by go_num, hpt.below (by (repeat (first | with_reducible exact Below.refl _ _ | with_reducible assumption | with_reducible refine below_alloc ?_ _ | ((with_reducible refine Below.setCell ?_ ?_ _); rotate_left; (· first | exact Nat.le_refl _ | (simp; done) | (simp; omega))) | with_reducible refine below_drewN ?_ _ | with_reducible refine Below.drew ?_ | with_reducible refine below_then ?_ (by with_reducible assumption)))), (show Fr [g] Wp _ by (repeat (first | with_reducible exact Fr.refl _ _ | with_reducible assumption | ((with_reducible refine Fr.setCell ?_ ?_ _); rotate_left; (· first | (simp; done) | assumption | (simp; assumption))) | with_reducible refine Fr.drewN ?_ _ | with_reducible refine Fr.drew ?_ | with_reducible refine Fr.alloc ?_ _ | with_reducible refine Fr.trans ?_ (Fr.of_below (by with_reducible assumption)))))⟩
                  case measure => simp [intOf]; omega
              · have hj : isJ y0 = false := by simpa using hjj
                have HS := Lib.hid (patK_skip (h := H) hqL (by rw [HY.out]; exact hj))
                go_wp2_with fail
                refine (implJumps _ _).mono ?_
                rintro e w5 ⟨rfl, rfl⟩
                rw [hj]
                go_wp2_with fail
                go_roundw
                case rel => exact ⟨q + 1, by omega, by go_num, by rw [HS.out]; exact hD.below (by (repeat (first | with_reducible exact Below.refl _ _ | with_reducible assumption | with_reducible refine below_alloc ?_ _ | ((with_reducible refine Below.setCell ?_ ?_ _); rotate_left; (· first | exact Nat.le_refl _ | (simp; done) | (simp; omega))) | with_reducible refine below_drewN ?_ _ | with_reducible refine Below.drew ?_ | with_reducible refine below_then ?_ (by with_reducible assumption)))), by (repeat (first | with_reducible exact Fr.refl _ _ | with_reducible assumption | ((with_reducible refine Fr.setCell ?_ ?_ _); rotate_left; (· first | (simp; done) | assumption | (simp; assumption))) | with_reducible refine Fr.drewN ?_ _ | with_reducible refine Fr.drew ?_ | with_reducible refine Fr.alloc ?_ _ | with_reducible refine Fr.trans ?_ (Fr.of_below (by with_reducible assumption))))⟩
                case measure => simp [intOf]; omega
            · obtain rfl : q = m := by omega
              rw [patK_all (by omega)] at hD
              have HR7 := Lib.hid hr7
              have hfo : Fr ([gp, X] ++ (Value.slice A7 q c7).ownBlock.toList) V wr := (hVp.more (fun u hu => List.mem_append_left _ hu)).trans (hf7.more (fun u hu => List.mem_append_right _ hu))
              have hGo : ∀ u, u ∈ [gp, X] ++ (Value.slice A7 q c7).ownBlock.toList → V.heap.size ≤ u := fun u hu => by
                have hxs := hx4.size
                rcases List.mem_append.1 hu with hu | hu
                · simp at hu; omega
                · have := (HR7.out u (by simpa using hu)).1; omega
              have hbo : Below w.heap.size w wr := below_fr hbV hfo (fun u hu => by have := hGo u hu; omega)
              have hXo := hD.lt
              obtain ⟨wo, hwo⟩ : ∃ wo, wo = wr := ⟨_, rfl⟩
              subst hwo
              obtain ⟨sx, s0, s1, s2, s3, s4⟩ := hX.out wo _ hfo hGo
              clear hf7 hr7 hfc hbWp hOp hVp hf hbw s0 s1 s2 s3 sx
              go_wp2_with fail
              clear s4
              go_loopw [100] (fun i wr => ∃ (r : Nat) (A9 : Option Addr) (n9 c9 : Nat), r ≤ m4 ∧ i = .int .i64 r ∧ DSt wr w4.heap.size X z0 z1 (.slice A6 n6 c6) (.slice A7 q c7) (.slice A9 n9 c9) t2 (L.map (patI H)) (dropRows H (t4.take r)) ∧ (∀ g, (Value.slice A9 n9 c9).ownBlock = some g → wo.heap.size ≤ g) ∧ Fr [X] wo wr) (fun i _ => m4 - (intOf i).toNat)
              case atStart => exact ⟨0, none, 0, 0, Nat.zero_le _, rfl, hD, (fun g h => by cases h), Fr.refl _ _⟩
              case round =>
                clear hD
                obtain ⟨r, A9, n9, c9, hr, rfl, hD, hg9, hf⟩ := hrel
                have hzr := hf.size
                have hXr := hD.lt
                have hbr : Below w.heap.size w wr := below_fr hbo hf (by first | omega | (simp; done) | (simp; omega))
                by_cases hlt3 : r < m4
                · have hO8 : OwnSl intR wr 3 [gp] (.slice (some ⟨gp, 0, none⟩) (k + 1) (k + 1)) (places H (k + 1)) := hO7.fr hf (fun u hu hu' => by simp at hu hu'; omega)
                  obtain ⟨b4, o4, y0, y1, y2, rfl, _, hb4l, hli, _, _, _, r0, r1, r2⟩ := Row_at (kS4.below hbr hh) hlt3
                  have hrt : r < t4.length := by have := L4.out; omega
                  have hin := rows_in HRW.out hrt
                  have hli2 : t4[r]'hrt = (y0, y1, y2) := hli
                  rw [hli2, L3.out] at hin
                  simp only at hin
                  obtain ⟨a0, rfl⟩ : ∃ a : Nat, y0 = (a : Int) := ⟨y0.toNat, by omega⟩
                  obtain ⟨a1, rfl⟩ : ∃ a : Nat, y1 = (a : Int) := ⟨y1.toNat, by omega⟩
                  obtain ⟨a2, rfl⟩ : ∃ a : Nat, y2 = (a : Int) := ⟨y2.toNat, by omega⟩
                  have ha0 : a0 < k + 1 := by omega
                  have ha1 : a1 < k + 1 := by omega
                  have ha2 : a2 < k + 1 := by omega
                  have hp0 := places_cell hO8 ha0
                  have hp1 := places_cell hO8 ha1
                  have hp2 := places_cell hO8 ha2
                  have HSY := Lib.hid (fun hp => dropRows_yes (h := H) hrt hli2 hp)
                  have HSN := Lib.hid (fun hp => dropRows_no (h := H) hrt hli2 hp)
                  have ha0I : (a0 : Int) < (k : Int) + 1 := by omega
                  have ha1I : (a1 : Int) < (k : Int) + 1 := by omega
                  have ha2I : (a2 : Int) < (k : Int) + 1 := by omega
                  have hgr : gp < wr.heap.size := by omega
                  clear hin hli hli2
                  go_upto_region 22 with fail
                  obtain ⟨W3, hW3⟩ : ∃ W3, W3 = wr.alloc (.cells #[.int .i64 a0, .int .i64 a1, .int .i64 a2] 97) := ⟨_, rfl⟩
                  have hb3' : Below wr.heap.size wr W3 := by rw [hW3]; (repeat (first | with_reducible exact Below.refl _ _ | with_reducible assumption | with_reducible refine below_alloc ?_ _ | ((with_reducible refine Below.setCell ?_ ?_ _); rotate_left; (· first | exact Nat.le_refl _ | (simp; done) | (simp; omega))) | with_reducible refine below_drewN ?_ _ | with_reducible refine Below.drew ?_ | with_reducible refine below_then ?_ (by with_reducible assumption)))
                  have hz3' : wr.heap.size < W3.heap.size := by rw [hW3]; simp
                  have hS3 := Lib.hid (show ∀ V', Below W3.heap.size W3 V' → V'.cell? ⟨wr.heap.size, 0, none⟩ = some (.int .i64 a0) ∧ V'.cell? ⟨wr.heap.size, 1, none⟩ = some (.int .i64 a1) ∧ V'.cell? ⟨wr.heap.size, 2, none⟩ = some (.int .i64 a2) ∧ V'.cell? ⟨gp, a0, none⟩ = some (.int .i64 (plN H a0)) ∧ V'.cell? ⟨gp, a1, none⟩ = some (.int .i64 (plN H a1)) ∧ V'.cell? ⟨gp, a2, none⟩ = some (.int .i64 (plN H a2)) from fun V' hV => by
                    refine ⟨below_cell hV ?_, below_cell hV ?_, below_cell hV ?_, below_cell hV (below_cell hb3' hp0), below_cell hV (below_cell hb3' hp1), below_cell hV (below_cell hb3' hp2)⟩ <;> (rw [hW3]; simp [go_sem]))
                  rw [← hW3]
                  have hD3 := hD.below hb3'
                  have hf3 : Fr [X] wo W3 := hf.trans (Fr.of_below hb3')
                  clear hW3 hp0 hp1 hp2 r0 r1 r2 hD hf
                  obtain ⟨p0, p1, p2, p3, p4, p5⟩ := hS3.out W3 (Below.refl _ _)
                  go_cut [16] (fun s wx => ∃ Y, s = .pointer (some ⟨Y, 0, none⟩) ∧ wx.cell? ⟨Y, 0, none⟩ = some (.int .i64 (plN H a0)) ∧ wx.cell? ⟨Y, 1, none⟩ = some (.int .i64 (plN H a1)) ∧ wx.cell? ⟨Y, 2, none⟩ = some (.int .i64 (plN H a2)) ∧ W3.heap.size ≤ Y ∧ Below W3.heap.size W3 wx)
                  case first =>
                    as_aux_lemma =>
                      go_region_held3 (fun V' => V'.cell? ⟨wr.heap.size, 0, none⟩ = some (.int .i64 a0) ∧ V'.cell? ⟨wr.heap.size, 1, none⟩ = some (.int .i64 a1) ∧ V'.cell? ⟨wr.heap.size, 2, none⟩ = some (.int .i64 a2) ∧ V'.cell? ⟨gp, a0, none⟩ = some (.int .i64 (plN H a0)) ∧ V'.cell? ⟨gp, a1, none⟩ = some (.int .i64 (plN H a1)) ∧ V'.cell? ⟨gp, a2, none⟩ = some (.int .i64 (plN H a2))) (exact hS3.out _ (show Below W3.heap.size W3 _ by (repeat (first | with_reducible exact Below.refl _ _ | with_reducible assumption | with_reducible refine below_alloc ?_ _ | ((with_reducible refine Below.setCell ?_ ?_ _); rotate_left; (· first | exact Nat.le_refl _ | omega | (simp; done) | (simp; omega))) | with_reducible refine below_drewN ?_ _ | with_reducible refine Below.drew ?_ | with_reducible refine below_then ?_ (by with_reducible assumption)))))
                        (fail)
                      all_goals
                        go_wp2_with fail
                        go_meet
                        case rel => exact ⟨_, rfl, by simp [go_sem], by simp [go_sem], by simp [go_sem], Nat.le_refl _, by (repeat (first | with_reducible exact Below.refl _ _ | with_reducible assumption | with_reducible refine below_alloc ?_ _ | ((with_reducible refine Below.setCell ?_ ?_ _); rotate_left; (· first | exact Nat.le_refl _ | omega | (simp; done) | (simp; omega))) | with_reducible refine below_drewN ?_ _ | with_reducible refine Below.drew ?_ | with_reducible refine below_then ?_ (by with_reducible assumption)))⟩
                  case rest =>
                    as_aux_lemma =>
                      obtain ⟨Y, rfl, t0, t1, t2', hY, hbe⟩ := hcut
                      have hDe := hD3.below hbe
                      have hfe : Fr [X] wo wc := hf3.trans (Fr.of_below hbe)
                      have hze := hbe.size
                      have hXe := hDe.lt
                      have hYe := World.block_lt_of_cell? wc _ t0
                      clear p0 p1 p2 p3 p4 p5 hS3 hD3 hf3 hbe
                      have c4 := hDe.k4
                      by_cases hab : plN H a0 < plN H a1
                      · have hdec : decide ((plN H a0 : Int) < (plN H a1 : Int)) = true := by simpa using hab
                        have HST := Lib.hid (HSY.out hab)
                        obtain ⟨inf, hif, hy0, hy1, hy2⟩ := info_parts Tryz.infoRow2
                        have hown0 : wc.ownsRow w4.heap.size 97 3 (.slice A9 n9 c9) (dropRows H (t4.take r)).length (encL rowV (dropRows H (t4.take r))) := hDe.cd.r4
                        have hdr := dropRows_len H (t4.take r)
                        have hdr2 : (t4.take r).length ≤ r := by simp; omega
                        go_wp2_with (at_builtin; refine wpList_append_src _ rfl _ _ 28 rfl w4.heap.size 97 inf (.agg #[.int .i64 0, .int .i64 0, .int .i64 0]) 3 24 Tryz.underlying28 hif hy0 hy1 hy2 rfl (by decide) _ _ _ rfl (hown0.alloc _) (some ⟨wc.heap.size, 0, none⟩) 1 1 [.int .i64 (plN H a0), .int .i64 (plN H a1), .int .i64 (plN H a2)] rfl (src_new rfl rfl) (by simp [Value.oneCell']) (by unfold maxLen; omega) (by omega) (by simp; omega) ?_)
                        intro v' w5 hown hgr' hat
                        have hr5 : RowsRow w5 w4.heap.size v' (dropRows H (t4.take (r + 1))) := by
                          unfold RowsRow
                          rw [HST.out, List.length_append, encL_append]; exact hown
                        obtain ⟨A8, n8, c8, rfl, h8⟩ := rows_form hr5
                        clear h8
                        have hbX : w5.heap[X]? = wc.heap[X]? := (hgr'.block X (by simp; omega) (fun e => hDe.n4 e.symm)).trans (alloc_lt hDe.lt)
                        have c4' := cell_same0 hbX hDe.k4
                        have c4f := (World.frozen?_of_block (w := wc) (a := ⟨X, 4, none⟩) hbX).trans (hDe.kf 4)
                        have hD5 := hDe.put4 (wm := wc.alloc (.cells #[.int .i64 (plN H a0), .int .i64 (plN H a1), .int .i64 (plN H a2)] 97)) (fun q _ h2 => alloc_lt h2) (by simp) hgr' hr5 (by rw [size_alloc]; exact hat)
                        have hf5 : Fr [X] wo (w5.setCell ⟨X, 4, none⟩ (.slice A8 n8 c8)) := put_fr (v := .slice A9 n9 c9) hfe (show Fr [X] wc (wc.alloc (.cells #[.int .i64 (plN H a0), .int .i64 (plN H a1), .int .i64 (plN H a2)] 97)) by (repeat (first | with_reducible exact Fr.refl _ _ | with_reducible assumption | ((with_reducible refine Fr.setCell ?_ ?_ _); rotate_left; (· first | (simp; done) | assumption | (simp; assumption))) | with_reducible refine Fr.drewN ?_ _ | with_reducible refine Fr.drew ?_ | with_reducible refine Fr.alloc ?_ _ | with_reducible refine Fr.trans ?_ (Fr.of_below (by with_reducible assumption))))) hgr' hg9 (by simp)
                        have hg8 : ∀ g, (Value.slice A8 n8 c8).ownBlock = some g → wo.heap.size ≤ g := by
                          intro g e
                          rcases hat with hat | hat
                          · exact hg9 g (by rw [← hat]; exact e)
                          · rw [hat] at e; injection e with e; have := hfe.size; omega
                        clear hown hgr' hat hown0 hDe hfe hg9 hr5 hbX c4 t0 t1 t2'
                        go_wp2_with fail
                        go_roundw
                        case rel => exact ⟨r + 1, A8, n8, c8, by omega, by go_num, hD5, hg8, hf5⟩
                        case measure => simp [intOf]; omega
                      · have hdec : decide ((plN H a0 : Int) < (plN H a1 : Int)) = false := by simpa using hab
                        have HST := Lib.hid (HSN.out hab)
                        have hD5 : DSt wc w4.heap.size X z0 z1 (.slice A6 n6 c6) (.slice A7 q c7) (.slice A9 n9 c9) t2 (L.map (patI H)) (dropRows H (t4.take (r + 1))) := by rw [HST.out]; exact hDe
                        clear hDe
                        go_wp2_with fail
                        go_roundw
                        case rel => exact ⟨r + 1, A9, n9, c9, by omega, by go_num, hD5, hg9, hfe⟩
                        case measure => simp [intOf]; omega
                · rw [List.take_of_length_le (by have := L4.out; omega)] at hD
                  obtain ⟨g0, g1, g2, g3, g4, gf⟩ := hR.out wr _ (hfo.trans (hf.more (fun u hu => List.mem_append_left _ (by simp at hu; simp [hu])))) hGo
                  have k0 := hD.k0
                  have k1 := hD.k1
                  have k2 := hD.k2
                  have k3 := hD.k3
                  have k4 := hD.k4
                  have HLM : L.map (patI H) = dropK (patI H) t3 H t3.length := by rw [← HLk.out, dropK_map]
                  rw [HLM] at hD
                  have hcd := hD.cd
                  have hz4 : w.heap.size + 1 < w4.heap.size := by have := hx4.size; omega
                  clear hD hf hg9 hfo hO7 HLM
                  go_wp2_with fail
                  refine bodyPost_ret (v := .agg #[.int .i64 z0, .int .i64 z1, .slice A6 n6 c6, .slice A7 q c7, .slice A9 n9 c9]) (by simp [results, Tryz.results47, go_sem, g0, g1, g2, g3, g4, gf]) rfl ?_
                  exact ⟨_, _, _, _, _, _, _, _, _, rfl, (hcd.fr (G := [w.heap.size + 1]) (by (repeat (first | with_reducible exact Fr.refl _ _ | with_reducible assumption | ((with_reducible refine Fr.setCell ?_ ?_ _); rotate_left; (· first | (simp; done) | assumption | (simp; assumption))) | with_reducible refine Fr.drewN ?_ _ | with_reducible refine Fr.drew ?_ | with_reducible refine Fr.alloc ?_ _ | with_reducible refine Fr.trans ?_ (Fr.of_below (by with_reducible assumption))))) (by first | omega | (simp; done) | (simp; omega))).mono (by omega), by (repeat (first | with_reducible exact Below.refl _ _ | with_reducible assumption | with_reducible refine below_alloc ?_ _ | ((with_reducible refine Below.setCell ?_ ?_ _); rotate_left; (· first | exact Nat.le_refl _ | (simp; done) | (simp; omega))) | with_reducible refine below_drewN ?_ _ | with_reducible refine Below.drew ?_ | with_reducible refine below_then ?_ (by with_reducible assumption)))⟩
end Go.Proofs.YtmnkgcjbckamnaaGreat
