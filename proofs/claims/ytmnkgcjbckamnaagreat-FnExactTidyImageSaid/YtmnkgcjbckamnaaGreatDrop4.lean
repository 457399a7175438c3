/- DropDead: both contracts as the law takes them. -/
import Derived.Test.YtmnkgcjbckamnaaGreatDrop3
import Derived.Test.YtmnkgcjbckamnaaGreatRetC
import Derived.Deep.DeepCutAuto
import Derived.Deep.RegionHeld3
set_option linter.unusedVariables false
set_option linter.unusedSimpArgs false
set_option maxRecDepth 100000
namespace Go.Proofs.YtmnkgcjbckamnaaGreat
open Go.RowKit
attribute [local irreducible] wpList
theorem plI_ok {h : List Int} {v : Int} (hv : I64 v) : I64 (plI h v) := by
  unfold plI
  have := plN_le h v.toNat
  unfold I64 at *
  omega
theorem patI_ok {h : List Int} {i : Ins} (hi : I64 i.1 ∧ I64 i.2) : I64 (patI h i).1 ∧ I64 (patI h i).2 := by
  unfold patI
  split
  · exact ⟨hi.1, plI_ok hi.2⟩
  · exact hi
theorem dropK_ok {h : List Int} {I : List Ins} {k : Nat} (hi : ∀ i, i ∈ I → okIns i) : ∀ i, i ∈ dropK (patI h) I h k → okIns i := by
  intro i hm
  obtain ⟨j, h1, rfl⟩ := dropK_mem hm
  exact patI_ok (hi j h1)
theorem dropRows_ok {h : List Int} {rows : List Row} (hr : ∀ r, r ∈ rows → I64 r.1 ∧ I64 r.2.1 ∧ I64 r.2.2) : ∀ r, r ∈ dropRows h rows → I64 r.1 ∧ I64 r.2.1 ∧ I64 r.2.2 := by
  intro r hm
  unfold dropRows at hm
  obtain ⟨s, h1, rfl⟩ := List.mem_map.1 (List.mem_filter.1 hm).1
  obtain ⟨a, b, c⟩ := hr s h1
  exact ⟨plI_ok a, plI_ok b, plI_ok c⟩
theorem dropF_sz {c : Code} (h : codeSz c = true) (H : List Int) (hl : H.length = c.2.2.2.1.length) : (dropF c H).2.2.1.length + (dropF c H).2.2.2.1.length + (dropF c H).2.2.2.2.length ≤ 1000 := by
  have hs := codeSz_len h
  unfold dropF
  simp only
  rw [dropK_len hl _ (Nat.le_refl _)]
  have := plN_le H c.2.2.2.1.length
  have := dropRows_len H c.2.2.2.2
  omega
theorem drop_sz (x : Image) (k : Int) : (dropR x k).2.2.1.length + (dropR x k).2.2.2.1.length + (dropR x k).2.2.2.2.length ≤ 1000 := by
  cases h : liveOk x k
  · rw [dropR_no h]; simp [noCode]
  · have h' := h
    unfold liveOk at h'
    rw [Bool.and_eq_true] at h'
    have hb := inB_iff.1 h'.2
    obtain ⟨j, rfl⟩ := Int.eq_ofNat_of_zero_le hb.1
    have hj : j < x.length := by omega
    rw [dropR_yes h hj]
    have hg := goodI_iff.1 h'.1
    exact dropF_sz (sizedB_mem hg.1 _ (List.getElem_mem hj)) _ (checkH_len (hg.2.2 _ (List.getElem_mem hj))).1
set_option maxHeartbeats 8000000 in
theorem implDropDeadC (w : World) (A : Option Addr) (n c : Nat) (x : List Code) (v : Int) (h : Sl CodeR w 0 w.heap.size A n c x) (_ : mszLCode x ≤ 1048576) (_ : I64 v) (z0 z1 : Int) (t2 : List Int) (t3 : List Ins) (t4 : List Row) (hz : dropR x v = (z0, z1, t2, t3, t4)) (b : Bool) (hb : liveOk x v = b) :
    Calls Tryz.prog 12 #[.agg #[.slice A n c], .int .i64 v] w (RetRO z0 z1 t2 t3 t4 b w) := by
  have HL := Lib.hid h.lenEq
  have hq : liveOk x v = (goodI x && inB v 0 ((n : Int) - 1)) := by unfold liveOk; rw [HL.out]
  have hn1 := h.lenLe
  have qw : IntKind.i64.wrap ((n : Int) - 1) = (n : Int) - 1 := IntWalk.i64_in _ (by omega)
  by_cases g : goodI x = true
  rotate_left
  · have g : goodI x = false := by simpa using g
    have hn0 : liveOk x v = false := by rw [hq, g]; rfl
    rw [dropR_no hn0] at hz
    simp only [noCode, Prod.mk.injEq] at hz
    obtain ⟨rfl, rfl, rfl, rfl, rfl⟩ := hz
    obtain rfl : b = false := hb.symm.trans hn0
    clear hq hn0 hb
    go_enter Tryz.func12, Tryz.ntmps12
    go_wp2_with fail
    refine (implIsImage _ 0 w.heap.size A n c x (h.below (show Below w.heap.size w _ by (repeat (first | with_reducible exact Below.refl _ _ | with_reducible assumption | with_reducible refine below_alloc ?_ _ | ((with_reducible refine Below.setCell ?_ ?_ _); rotate_left; (· first | exact Nat.le_refl _ | (simp; done) | (simp; omega))) | with_reducible refine below_drewN ?_ _ | with_reducible refine Below.drew ?_ | with_reducible refine below_then ?_ (by with_reducible assumption)))) (Nat.le_refl _)) (by first | omega | (simp; done) | (simp; omega))).mono ?_
    rintro e w2 ⟨rfl, hb2⟩
    obtain ⟨hcE, hfE⟩ := bcell hb2
    have r0 : w2.cell? ⟨w.heap.size + 1, 0, none⟩ = some (.int .i64 0) := by simp [hcE, go_sem]
    have r1 : w2.cell? ⟨w.heap.size + 1, 1, none⟩ = some (.int .i64 0) := by simp [hcE, go_sem]
    have r2 : w2.cell? ⟨w.heap.size + 1, 2, none⟩ = some (.slice none 0 0) := by simp [hcE, go_sem]
    have r3 : w2.cell? ⟨w.heap.size + 1, 3, none⟩ = some (.slice none 0 0) := by simp [hcE, go_sem]
    have r4 : w2.cell? ⟨w.heap.size + 1, 4, none⟩ = some (.slice none 0 0) := by simp [hcE, go_sem]
    have rf : ∀ j, w2.frozen? ⟨w.heap.size + 1, j, none⟩ = false := fun j => by simp [hfE, go_sem]
    have hx2 : Below w.heap.size w w2 := by (repeat (first | with_reducible exact Below.refl _ _ | with_reducible assumption | with_reducible refine below_alloc ?_ _ | ((with_reducible refine Below.setCell ?_ ?_ _); rotate_left; (· first | exact Nat.le_refl _ | (simp; done) | (simp; omega))) | with_reducible refine below_drewN ?_ _ | with_reducible refine Below.drew ?_ | with_reducible refine below_then ?_ (by with_reducible assumption)))
    clear hcE hfE hb2
    go_wp2_with fail
    refine bodyPost_ret (v := .tuple #[.agg #[.int .i64 0, .int .i64 0, .slice none 0 0, .slice none 0 0, .slice none 0 0], .bool false]) (by simp [results, Tryz.results12, go_sem, r0, r1, r2, r3, r4, rf]) rfl ?_
    exact RetRO.none (by (repeat (first | with_reducible exact Below.refl _ _ | with_reducible assumption | with_reducible refine below_alloc ?_ _ | ((with_reducible refine Below.setCell ?_ ?_ _); rotate_left; (· first | exact Nat.le_refl _ | (simp; done) | (simp; omega))) | with_reducible refine below_drewN ?_ _ | with_reducible refine Below.drew ?_ | with_reducible refine below_then ?_ (by with_reducible assumption))))
  by_cases g2 : inB v 0 ((n : Int) - 1) = true
  rotate_left
  · have g2 : inB v 0 ((n : Int) - 1) = false := by simpa using g2
    have hn0 : liveOk x v = false := by rw [hq, g2]; simp
    rw [dropR_no hn0] at hz
    simp only [noCode, Prod.mk.injEq] at hz
    obtain ⟨rfl, rfl, rfl, rfl, rfl⟩ := hz
    obtain rfl : b = false := hb.symm.trans hn0
    clear hq hn0 hb
    go_enter Tryz.func12, Tryz.ntmps12
    go_wp2_with fail
    refine (implIsImage _ 0 w.heap.size A n c x (h.below (show Below w.heap.size w _ by (repeat (first | with_reducible exact Below.refl _ _ | with_reducible assumption | with_reducible refine below_alloc ?_ _ | ((with_reducible refine Below.setCell ?_ ?_ _); rotate_left; (· first | exact Nat.le_refl _ | (simp; done) | (simp; omega))) | with_reducible refine below_drewN ?_ _ | with_reducible refine Below.drew ?_ | with_reducible refine below_then ?_ (by with_reducible assumption)))) (Nat.le_refl _)) (by first | omega | (simp; done) | (simp; omega))).mono ?_
    rintro e w2 ⟨rfl, hb2⟩
    obtain ⟨hcE, hfE⟩ := bcell hb2
    have qx : w2.cell? ⟨w.heap.size, 0, none⟩ = some (.slice A n c) := by simp [hcE, go_sem]
    have r0 : w2.cell? ⟨w.heap.size + 1, 0, none⟩ = some (.int .i64 0) := by simp [hcE, go_sem]
    have r1 : w2.cell? ⟨w.heap.size + 1, 1, none⟩ = some (.int .i64 0) := by simp [hcE, go_sem]
    have r2 : w2.cell? ⟨w.heap.size + 1, 2, none⟩ = some (.slice none 0 0) := by simp [hcE, go_sem]
    have r3 : w2.cell? ⟨w.heap.size + 1, 3, none⟩ = some (.slice none 0 0) := by simp [hcE, go_sem]
    have r4 : w2.cell? ⟨w.heap.size + 1, 4, none⟩ = some (.slice none 0 0) := by simp [hcE, go_sem]
    have rf : ∀ j, w2.frozen? ⟨w.heap.size + 1, j, none⟩ = false := fun j => by simp [hfE, go_sem]
    have hx2 : Below w.heap.size w w2 := by (repeat (first | with_reducible exact Below.refl _ _ | with_reducible assumption | with_reducible refine below_alloc ?_ _ | ((with_reducible refine Below.setCell ?_ ?_ _); rotate_left; (· first | exact Nat.le_refl _ | (simp; done) | (simp; omega))) | with_reducible refine below_drewN ?_ _ | with_reducible refine Below.drew ?_ | with_reducible refine below_then ?_ (by with_reducible assumption)))
    clear hcE hfE hb2
    go_wp2_with (go_at_call 46; ((with_reducible refine (implWithin _ _ _ _).mono ?_); rintro e w3 ⟨rfl, rfl⟩))
    refine bodyPost_ret (v := .tuple #[.agg #[.int .i64 0, .int .i64 0, .slice none 0 0, .slice none 0 0, .slice none 0 0], .bool false]) (by simp [results, Tryz.results12, go_sem, r0, r1, r2, r3, r4, rf]) rfl ?_
    exact RetRO.none (by (repeat (first | with_reducible exact Below.refl _ _ | with_reducible assumption | with_reducible refine below_alloc ?_ _ | ((with_reducible refine Below.setCell ?_ ?_ _); rotate_left; (· first | exact Nat.le_refl _ | (simp; done) | (simp; omega))) | with_reducible refine below_drewN ?_ _ | with_reducible refine Below.drew ?_ | with_reducible refine below_then ?_ (by with_reducible assumption))))
  have hn0 : liveOk x v = true := by rw [hq, g, g2]; rfl
  have hbd := inB_iff.1 g2
  obtain ⟨j, rfl⟩ := Int.eq_ofNat_of_zero_le hbd.1
  have hj : j < n := by omega
  have hjx : j < x.length := by have := HL.out; omega
  have hg := goodI_iff.1 g
  have hzz := Lib.hid (sizedB_mem hg.1)
  have hc0 := Lib.hid (hg.2.2 _ (List.getElem_mem hjx))
  rw [dropR_yes hn0 hjx] at hz
  obtain rfl : b = true := hb.symm.trans hn0
  obtain ⟨H, HH0⟩ : ∃ H, checkH x x[j] = H := ⟨_, rfl⟩
  rw [HH0] at hz
  obtain ⟨bc, oc, y0, y1, D2, m2, d2, u2, D3, m3, d3, u3, D4, m4, d4, u4, rfl, _, hbb, hlc, _, _, kS2, kS3, kS4, v0, v1, v2, v3, v4⟩ := Code_at h hj
  rw [hlc] at hz
  simp only [dropF, Prod.mk.injEq] at hz
  obtain ⟨rfl, rfl, rfl, rfl, rfl⟩ := hz
  have j2 := Lib.hid (sl_ints_ok kS2)
  have j3 := Lib.hid (dropK_ok (h := H) (k := u3.length) (sl_ins_ok kS3))
  have j4 := Lib.hid (dropRows_ok (h := H) (sl_rows_ok kS4))
  have HH := Lib.hid HH0
  have HLC := Lib.hid hlc
  clear hq hn0 hb hg hbd HH0 hlc
  go_enter Tryz.func12, Tryz.ntmps12
  go_wp2_with fail
  refine (implIsImage _ 0 w.heap.size (some ⟨bc, oc, none⟩) n c x (h.below (show Below w.heap.size w _ by (repeat (first | with_reducible exact Below.refl _ _ | with_reducible assumption | with_reducible refine below_alloc ?_ _ | ((with_reducible refine Below.setCell ?_ ?_ _); rotate_left; (· first | exact Nat.le_refl _ | (simp; done) | (simp; omega))) | with_reducible refine below_drewN ?_ _ | with_reducible refine Below.drew ?_ | with_reducible refine below_then ?_ (by with_reducible assumption)))) (Nat.le_refl _)) (by first | omega | (simp; done) | (simp; omega))).mono ?_
  rintro e w2 ⟨rfl, hb2⟩
  obtain ⟨hcE, hfE⟩ := bcell hb2
  have qx : w2.cell? ⟨w.heap.size, 0, none⟩ = some (.slice (some ⟨bc, oc, none⟩) n c) := by simp [hcE, go_sem]
  have r0 : w2.cell? ⟨w.heap.size + 1, 0, none⟩ = some (.int .i64 0) := by simp [hcE, go_sem]
  have r1 : w2.cell? ⟨w.heap.size + 1, 1, none⟩ = some (.int .i64 0) := by simp [hcE, go_sem]
  have r2 : w2.cell? ⟨w.heap.size + 1, 2, none⟩ = some (.slice none 0 0) := by simp [hcE, go_sem]
  have r3 : w2.cell? ⟨w.heap.size + 1, 3, none⟩ = some (.slice none 0 0) := by simp [hcE, go_sem]
  have r4 : w2.cell? ⟨w.heap.size + 1, 4, none⟩ = some (.slice none 0 0) := by simp [hcE, go_sem]
  have rf : ∀ j, w2.frozen? ⟨w.heap.size + 1, j, none⟩ = false := fun j => by simp [hfE, go_sem]
  have hx2 : Below w.heap.size w w2 := by (repeat (first | with_reducible exact Below.refl _ _ | with_reducible assumption | with_reducible refine below_alloc ?_ _ | ((with_reducible refine Below.setCell ?_ ?_ _); rotate_left; (· first | exact Nat.le_refl _ | (simp; done) | (simp; omega))) | with_reducible refine below_drewN ?_ _ | with_reducible refine Below.drew ?_ | with_reducible refine below_then ?_ (by with_reducible assumption)))
  have hR2 : w.heap.size + 1 < w2.heap.size := World.block_lt_of_cell? w2 _ r0
  clear hcE hfE hb2
  replace v0 := below_cell hx2 v0
  replace v1 := below_cell hx2 v1
  replace v2 := below_cell hx2 v2
  replace v3 := below_cell hx2 v3
  replace v4 := below_cell hx2 v4
  have hjI : (j : Int) < (n : Int) := by omega
  go_wp2_with (go_at_call 46; ((with_reducible refine (implWithin _ _ _ _).mono ?_); rintro e w3 ⟨rfl, rfl⟩))
  refine (implDropDead1 _ 0 w.heap.size (some ⟨bc, oc, none⟩) n c x j (h.below (below_then hx2 (show Below w2.heap.size w2 _ by (repeat (first | with_reducible exact Below.refl _ _ | with_reducible assumption | with_reducible refine below_alloc ?_ _ | ((with_reducible refine Below.setCell ?_ ?_ _); rotate_left; (· first | exact Nat.le_refl _ | (simp; done) | (simp; omega))) | with_reducible refine below_drewN ?_ _ | with_reducible refine Below.drew ?_ | with_reducible refine below_then ?_ (by with_reducible assumption))))) (Nat.le_refl _)) (by have := hx2.size; first | omega | (simp; done) | (simp; omega)) hj hzz.out hc0.out y0 y1 u2 u3 u4 HLC.out H HH.out).mono ?_
  rintro e w4 ⟨B2, k2, l2, B3, k3, l3', B4, k4, l4, rfl, hcd, hb4⟩
  have q0 := below_cell hb4 r0
  have q1 := below_cell hb4 r1
  have q2 := below_cell hb4 r2
  have q3 := below_cell hb4 r3
  have q4 := below_cell hb4 r4
  have qf : ∀ j, w4.frozen? ⟨w.heap.size + 1, j, none⟩ = false := fun j => below_frozen hb4 hR2 (rf j)
  have hx4 := below_then hx2 hb4
  clear r0 r1 r2 r3 r4 rf hb4 v0 v1 v2 v3 v4
  have hxs := hx2.size
  go_wp2_with fail
  refine bodyPost_ret (v := .tuple #[.agg #[.int .i64 y0, .int .i64 y1, .slice B2 k2 l2, .slice B3 k3 l3', .slice B4 k4 l4], .bool true]) (by simp [results, Tryz.results12, go_sem, q0, q1, q2, q3, q4, qf]) rfl ?_
  exact RetRO.mk (hcd.fr (G := [w.heap.size + 1]) (by (repeat (first | with_reducible exact Fr.refl _ _ | with_reducible assumption | ((with_reducible refine Fr.setCell ?_ ?_ _); rotate_left; (· first | (simp; done) | assumption | (simp; assumption))) | with_reducible refine Fr.drewN ?_ _ | with_reducible refine Fr.drew ?_ | with_reducible refine Fr.alloc ?_ _ | with_reducible refine Fr.trans ?_ (Fr.of_below (by with_reducible assumption))))) (by first | omega | (simp; done) | (simp; omega))) hxs j2.out j3.out j4.out (by (repeat (first | with_reducible exact Below.refl _ _ | with_reducible assumption | with_reducible refine below_alloc ?_ _ | ((with_reducible refine Below.setCell ?_ ?_ _); rotate_left; (· first | exact Nat.le_refl _ | (simp; done) | (simp; omega))) | with_reducible refine below_drewN ?_ _ | with_reducible refine Below.drew ?_ | with_reducible refine below_then ?_ (by with_reducible assumption))))
set_option maxHeartbeats 8000000 in
theorem specDropDeadC (w : World) (A : Option Addr) (n c : Nat) (x : List Code) (v : Int) (h : Sl CodeR w 0 w.heap.size A n c x) (_ : mszLCode x ≤ 1048576) (_ : I64 v) (z0 z1 : Int) (t2 : List Int) (t3 : List Ins) (t4 : List Row) (hz : dropR x v = (z0, z1, t2, t3, t4)) (b : Bool) (hb : liveOk x v = b) :
    Calls Tryz.prog 10 #[.agg #[.slice A n c], .int .i64 v] w (RetRS z0 z1 t2 t3 t4 b w) := by
  have HL := Lib.hid h.lenEq
  have hq : liveOk x v = (goodI x && inB v 0 ((n : Int) - 1)) := by unfold liveOk; rw [HL.out]
  have hn1 := h.lenLe
  have qw : IntKind.i64.wrap ((n : Int) - 1) = (n : Int) - 1 := IntWalk.i64_in _ (by omega)
  by_cases g : goodI x = true
  rotate_left
  · have g : goodI x = false := by simpa using g
    have hn0 : liveOk x v = false := by rw [hq, g]; rfl
    rw [dropR_no hn0] at hz
    simp only [noCode, Prod.mk.injEq] at hz
    obtain ⟨rfl, rfl, rfl, rfl, rfl⟩ := hz
    obtain rfl : b = false := hb.symm.trans hn0
    clear hq hn0 hb
    go_enter Tryz.func10, Tryz.ntmps10
    go_wp2_with fail
    refine (specGoodImage _ 0 w.heap.size A n c x (h.below (show Below w.heap.size w _ by (repeat (first | with_reducible exact Below.refl _ _ | with_reducible assumption | with_reducible refine below_alloc ?_ _ | ((with_reducible refine Below.setCell ?_ ?_ _); rotate_left; (· first | exact Nat.le_refl _ | (simp; done) | (simp; omega))) | with_reducible refine below_drewN ?_ _ | with_reducible refine Below.drew ?_ | with_reducible refine below_then ?_ (by with_reducible assumption)))) (Nat.le_refl _)) (by first | omega | (simp; done) | (simp; omega))).mono ?_
    rintro e w2 ⟨rfl, hb2⟩
    obtain ⟨hcE, hfE⟩ := bcell hb2
    have r0 : w2.cell? ⟨w.heap.size + 1, 0, none⟩ = some (.int .i64 0) := by simp [hcE, go_sem]
    have r1 : w2.cell? ⟨w.heap.size + 1, 1, none⟩ = some (.int .i64 0) := by simp [hcE, go_sem]
    have r2 : w2.cell? ⟨w.heap.size + 1, 2, none⟩ = some (.slice none 0 0) := by simp [hcE, go_sem]
    have r3 : w2.cell? ⟨w.heap.size + 1, 3, none⟩ = some (.slice none 0 0) := by simp [hcE, go_sem]
    have r4 : w2.cell? ⟨w.heap.size + 1, 4, none⟩ = some (.slice none 0 0) := by simp [hcE, go_sem]
    have rf : ∀ j, w2.frozen? ⟨w.heap.size + 1, j, none⟩ = false := fun j => by simp [hfE, go_sem]
    have hx2 : Below w.heap.size w w2 := by (repeat (first | with_reducible exact Below.refl _ _ | with_reducible assumption | with_reducible refine below_alloc ?_ _ | ((with_reducible refine Below.setCell ?_ ?_ _); rotate_left; (· first | exact Nat.le_refl _ | (simp; done) | (simp; omega))) | with_reducible refine below_drewN ?_ _ | with_reducible refine Below.drew ?_ | with_reducible refine below_then ?_ (by with_reducible assumption)))
    clear hcE hfE hb2
    go_wp2_with fail
    refine bodyPost_ret (v := .tuple #[.agg #[.int .i64 0, .int .i64 0, .slice none 0 0, .slice none 0 0, .slice none 0 0], .bool false]) (by simp [results, Tryz.results10, go_sem, r0, r1, r2, r3, r4, rf]) rfl ?_
    exact (RetRO.none (by (repeat (first | with_reducible exact Below.refl _ _ | with_reducible assumption | with_reducible refine below_alloc ?_ _ | ((with_reducible refine Below.setCell ?_ ?_ _); rotate_left; (· first | exact Nat.le_refl _ | (simp; done) | (simp; omega))) | with_reducible refine below_drewN ?_ _ | with_reducible refine Below.drew ?_ | with_reducible refine below_then ?_ (by with_reducible assumption))))).toS
  by_cases g2 : inB v 0 ((n : Int) - 1) = true
  rotate_left
  · have g2 : inB v 0 ((n : Int) - 1) = false := by simpa using g2
    have hn0 : liveOk x v = false := by rw [hq, g2]; simp
    rw [dropR_no hn0] at hz
    simp only [noCode, Prod.mk.injEq] at hz
    obtain ⟨rfl, rfl, rfl, rfl, rfl⟩ := hz
    obtain rfl : b = false := hb.symm.trans hn0
    clear hq hn0 hb
    go_enter Tryz.func10, Tryz.ntmps10
    go_wp2_with fail
    refine (specGoodImage _ 0 w.heap.size A n c x (h.below (show Below w.heap.size w _ by (repeat (first | with_reducible exact Below.refl _ _ | with_reducible assumption | with_reducible refine below_alloc ?_ _ | ((with_reducible refine Below.setCell ?_ ?_ _); rotate_left; (· first | exact Nat.le_refl _ | (simp; done) | (simp; omega))) | with_reducible refine below_drewN ?_ _ | with_reducible refine Below.drew ?_ | with_reducible refine below_then ?_ (by with_reducible assumption)))) (Nat.le_refl _)) (by first | omega | (simp; done) | (simp; omega))).mono ?_
    rintro e w2 ⟨rfl, hb2⟩
    obtain ⟨hcE, hfE⟩ := bcell hb2
    have qx : w2.cell? ⟨w.heap.size, 0, none⟩ = some (.slice A n c) := by simp [hcE, go_sem]
    have r0 : w2.cell? ⟨w.heap.size + 1, 0, none⟩ = some (.int .i64 0) := by simp [hcE, go_sem]
    have r1 : w2.cell? ⟨w.heap.size + 1, 1, none⟩ = some (.int .i64 0) := by simp [hcE, go_sem]
    have r2 : w2.cell? ⟨w.heap.size + 1, 2, none⟩ = some (.slice none 0 0) := by simp [hcE, go_sem]
    have r3 : w2.cell? ⟨w.heap.size + 1, 3, none⟩ = some (.slice none 0 0) := by simp [hcE, go_sem]
    have r4 : w2.cell? ⟨w.heap.size + 1, 4, none⟩ = some (.slice none 0 0) := by simp [hcE, go_sem]
    have rf : ∀ j, w2.frozen? ⟨w.heap.size + 1, j, none⟩ = false := fun j => by simp [hfE, go_sem]
    have hx2 : Below w.heap.size w w2 := by (repeat (first | with_reducible exact Below.refl _ _ | with_reducible assumption | with_reducible refine below_alloc ?_ _ | ((with_reducible refine Below.setCell ?_ ?_ _); rotate_left; (· first | exact Nat.le_refl _ | (simp; done) | (simp; omega))) | with_reducible refine below_drewN ?_ _ | with_reducible refine Below.drew ?_ | with_reducible refine below_then ?_ (by with_reducible assumption)))
    clear hcE hfE hb2
    go_wp2_with (go_at_call 42; ((with_reducible refine (specL1In _ _ _ _).mono ?_); rintro e w3 ⟨rfl, rfl⟩))
    refine bodyPost_ret (v := .tuple #[.agg #[.int .i64 0, .int .i64 0, .slice none 0 0, .slice none 0 0, .slice none 0 0], .bool false]) (by simp [results, Tryz.results10, go_sem, r0, r1, r2, r3, r4, rf]) rfl ?_
    exact (RetRO.none (by (repeat (first | with_reducible exact Below.refl _ _ | with_reducible assumption | with_reducible refine below_alloc ?_ _ | ((with_reducible refine Below.setCell ?_ ?_ _); rotate_left; (· first | exact Nat.le_refl _ | (simp; done) | (simp; omega))) | with_reducible refine below_drewN ?_ _ | with_reducible refine Below.drew ?_ | with_reducible refine below_then ?_ (by with_reducible assumption))))).toS
  have hn0 : liveOk x v = true := by rw [hq, g, g2]; rfl
  have hbd := inB_iff.1 g2
  obtain ⟨j, rfl⟩ := Int.eq_ofNat_of_zero_le hbd.1
  have hj : j < n := by omega
  have hjx : j < x.length := by have := HL.out; omega
  have hg := goodI_iff.1 g
  have hzz := Lib.hid (sizedB_mem hg.1)
  have hc0 := Lib.hid (hg.2.2 _ (List.getElem_mem hjx))
  rw [dropR_yes hn0 hjx] at hz
  obtain rfl : b = true := hb.symm.trans hn0
  obtain ⟨H, HH0⟩ : ∃ H, checkH x x[j] = H := ⟨_, rfl⟩
  rw [HH0] at hz
  obtain ⟨bc, oc, y0, y1, D2, m2, d2, u2, D3, m3, d3, u3, D4, m4, d4, u4, rfl, _, hbb, hlc, _, _, kS2, kS3, kS4, v0, v1, v2, v3, v4⟩ := Code_at h hj
  rw [hlc] at hz
  simp only [dropF, Prod.mk.injEq] at hz
  obtain ⟨rfl, rfl, rfl, rfl, rfl⟩ := hz
  have j2 := Lib.hid (sl_ints_ok kS2)
  have j3 := Lib.hid (dropK_ok (h := H) (k := u3.length) (sl_ins_ok kS3))
  have j4 := Lib.hid (dropRows_ok (h := H) (sl_rows_ok kS4))
  have HH := Lib.hid HH0
  have HLC := Lib.hid hlc
  clear hq hn0 hb hg hbd HH0 hlc
  go_enter Tryz.func10, Tryz.ntmps10
  go_wp2_with fail
  refine (specGoodImage _ 0 w.heap.size (some ⟨bc, oc, none⟩) n c x (h.below (show Below w.heap.size w _ by (repeat (first | with_reducible exact Below.refl _ _ | with_reducible assumption | with_reducible refine below_alloc ?_ _ | ((with_reducible refine Below.setCell ?_ ?_ _); rotate_left; (· first | exact Nat.le_refl _ | (simp; done) | (simp; omega))) | with_reducible refine below_drewN ?_ _ | with_reducible refine Below.drew ?_ | with_reducible refine below_then ?_ (by with_reducible assumption)))) (Nat.le_refl _)) (by first | omega | (simp; done) | (simp; omega))).mono ?_
  rintro e w2 ⟨rfl, hb2⟩
  obtain ⟨hcE, hfE⟩ := bcell hb2
  have qx : w2.cell? ⟨w.heap.size, 0, none⟩ = some (.slice (some ⟨bc, oc, none⟩) n c) := by simp [hcE, go_sem]
  have r0 : w2.cell? ⟨w.heap.size + 1, 0, none⟩ = some (.int .i64 0) := by simp [hcE, go_sem]
  have r1 : w2.cell? ⟨w.heap.size + 1, 1, none⟩ = some (.int .i64 0) := by simp [hcE, go_sem]
  have r2 : w2.cell? ⟨w.heap.size + 1, 2, none⟩ = some (.slice none 0 0) := by simp [hcE, go_sem]
  have r3 : w2.cell? ⟨w.heap.size + 1, 3, none⟩ = some (.slice none 0 0) := by simp [hcE, go_sem]
  have r4 : w2.cell? ⟨w.heap.size + 1, 4, none⟩ = some (.slice none 0 0) := by simp [hcE, go_sem]
  have rf : ∀ j, w2.frozen? ⟨w.heap.size + 1, j, none⟩ = false := fun j => by simp [hfE, go_sem]
  have hx2 : Below w.heap.size w w2 := by (repeat (first | with_reducible exact Below.refl _ _ | with_reducible assumption | with_reducible refine below_alloc ?_ _ | ((with_reducible refine Below.setCell ?_ ?_ _); rotate_left; (· first | exact Nat.le_refl _ | (simp; done) | (simp; omega))) | with_reducible refine below_drewN ?_ _ | with_reducible refine Below.drew ?_ | with_reducible refine below_then ?_ (by with_reducible assumption)))
  have hR2 : w.heap.size + 1 < w2.heap.size := World.block_lt_of_cell? w2 _ r0
  clear hcE hfE hb2
  replace v0 := below_cell hx2 v0
  replace v1 := below_cell hx2 v1
  replace v2 := below_cell hx2 v2
  replace v3 := below_cell hx2 v3
  replace v4 := below_cell hx2 v4
  have hjI : (j : Int) < (n : Int) := by omega
  have hS := Lib.hid (show ∀ V', Fr [w.heap.size + 1] w2 V' → V'.cell? ⟨w.heap.size, 0, none⟩ = some (.slice (some ⟨bc, oc, none⟩) n c) ∧ V'.cell? ⟨bc, oc + j * 5, none⟩ = some (.int .i64 y0) ∧ V'.cell? ⟨bc, oc + j * 5 + 1, none⟩ = some (.int .i64 y1) ∧ V'.cell? ⟨bc, oc + j * 5 + 2, none⟩ = some (.slice D2 m2 d2) ∧ V'.cell? ⟨bc, oc + j * 5 + 3, none⟩ = some (.slice D3 m3 d3) ∧ V'.cell? ⟨bc, oc + j * 5 + 4, none⟩ = some (.slice D4 m4 d4) from fun V' hV => ⟨cell_fr hV (by simp) qx, cell_fr hV (by simp; omega) v0, cell_fr hV (by simp; omega) v1, cell_fr hV (by simp; omega) v2, cell_fr hV (by simp; omega) v3, cell_fr hV (by simp; omega) v4⟩)
  have hxs := hx2.size
  have hcj := hc0.out
  rw [HLC.out] at hcj
  have hHj := HH.out
  rw [HLC.out] at hHj
  have hsj : codeSz (y0, y1, u2, u3, u4) = true := by rw [← HLC.out]; exact hzz.out _ (List.getElem_mem hjx)
  replace hcj := Lib.hid hcj
  replace hHj := Lib.hid hHj
  replace hsj := Lib.hid hsj
  go_wp2_with (go_at_call 42; ((with_reducible refine (specL1In _ _ _ _).mono ?_); rintro e w3 ⟨rfl, rfl⟩))
  go_region_held3 (fun V' => V'.cell? ⟨w.heap.size, 0, none⟩ = some (.slice (some ⟨bc, oc, none⟩) n c) ∧ V'.cell? ⟨bc, oc + j * 5, none⟩ = some (.int .i64 y0) ∧ V'.cell? ⟨bc, oc + j * 5 + 1, none⟩ = some (.int .i64 y1) ∧ V'.cell? ⟨bc, oc + j * 5 + 2, none⟩ = some (.slice D2 m2 d2) ∧ V'.cell? ⟨bc, oc + j * 5 + 3, none⟩ = some (.slice D3 m3 d3) ∧ V'.cell? ⟨bc, oc + j * 5 + 4, none⟩ = some (.slice D4 m4 d4)) (exact hS.out _ (show Fr [w.heap.size + 1] w2 _ by (repeat (first | with_reducible exact Fr.refl _ _ | with_reducible assumption | ((with_reducible refine Fr.setCell ?_ ?_ _); rotate_left; (· first | (simp; done) | assumption | (simp; assumption))) | with_reducible refine Fr.drewN ?_ _ | with_reducible refine Fr.drew ?_ | with_reducible refine Fr.alloc ?_ _ | with_reducible refine Fr.trans ?_ (Fr.of_below (by with_reducible assumption))))))
    (first | (go_at_call 43; ((with_reducible refine (specL13Drop1 _ 0 w.heap.size (some ⟨bc, oc, none⟩) n c x (h.below (below_then hx2 (show Below w2.heap.size w2 _ by (repeat (first | with_reducible exact Below.refl _ _ | with_reducible assumption | with_reducible refine below_alloc ?_ _ | ((with_reducible refine Below.setCell ?_ ?_ _); rotate_left; (· first | exact Nat.le_refl _ | omega | (simp; done) | (simp; omega))) | with_reducible refine below_drewN ?_ _ | with_reducible refine Below.drew ?_ | with_reducible refine below_then ?_ (by with_reducible assumption))))) (Nat.le_refl _)) (by first | omega | (simp; done) | (simp; omega)) hzz.out y0 y1 D2 D3 D4 m2 d2 m3 d3 m4 d4 u2 u3 u4 (kS2.below (below_then hx2 (show Below w2.heap.size w2 _ by (repeat (first | with_reducible exact Below.refl _ _ | with_reducible assumption | with_reducible refine below_alloc ?_ _ | ((with_reducible refine Below.setCell ?_ ?_ _); rotate_left; (· first | exact Nat.le_refl _ | omega | (simp; done) | (simp; omega))) | with_reducible refine below_drewN ?_ _ | with_reducible refine Below.drew ?_ | with_reducible refine below_then ?_ (by with_reducible assumption))))) (Nat.le_refl _)) (kS3.below (below_then hx2 (show Below w2.heap.size w2 _ by (repeat (first | with_reducible exact Below.refl _ _ | with_reducible assumption | with_reducible refine below_alloc ?_ _ | ((with_reducible refine Below.setCell ?_ ?_ _); rotate_left; (· first | exact Nat.le_refl _ | omega | (simp; done) | (simp; omega))) | with_reducible refine below_drewN ?_ _ | with_reducible refine Below.drew ?_ | with_reducible refine below_then ?_ (by with_reducible assumption))))) (Nat.le_refl _)) (kS4.below (below_then hx2 (show Below w2.heap.size w2 _ by (repeat (first | with_reducible exact Below.refl _ _ | with_reducible assumption | with_reducible refine below_alloc ?_ _ | ((with_reducible refine Below.setCell ?_ ?_ _); rotate_left; (· first | exact Nat.le_refl _ | omega | (simp; done) | (simp; omega))) | with_reducible refine below_drewN ?_ _ | with_reducible refine Below.drew ?_ | with_reducible refine below_then ?_ (by with_reducible assumption))))) (Nat.le_refl _)) hsj.out hcj.out H hHj.out).mono ?_); rintro e w4 ⟨B2, k2, l2, B3, k3, l3', B4, k4, l4, rfl, hcd, hb4'⟩; have hb4 : Below w2.heap.size w2 w4 := (by (repeat (first | with_reducible exact Below.refl _ _ | with_reducible assumption | with_reducible refine below_alloc ?_ _ | ((with_reducible refine Below.setCell ?_ ?_ _); rotate_left; (· first | exact Nat.le_refl _ | omega | (simp; done) | (simp; omega))) | with_reducible refine below_drewN ?_ _ | with_reducible refine Below.drew ?_ | with_reducible refine below_then ?_ (by with_reducible assumption)))); have hcd := hcd.mono (B' := w2.heap.size) (by first | omega | (simp; done) | (simp; omega)); have q0 := below_cell hb4 r0; have q1 := below_cell hb4 r1; have q2 := below_cell hb4 r2; have q3 := below_cell hb4 r3; have q4 := below_cell hb4 r4; have qf : ∀ j, w4.frozen? ⟨w.heap.size + 1, j, none⟩ = false := (fun j => below_frozen hb4 hR2 (rf j)); have hz4 := hb4.size)))
  all_goals
    have hx4 := below_then hx2 hb4
    go_wp2_with fail
    refine bodyPost_ret (v := .tuple #[.agg #[.int .i64 y0, .int .i64 y1, .slice B2 k2 l2, .slice B3 k3 l3', .slice B4 k4 l4], .bool true]) (by simp [results, Tryz.results10, go_sem, q0, q1, q2, q3, q4, qf]) rfl ?_
    exact (RetRO.mk (hcd.fr (G := [w.heap.size + 1]) (by (repeat (first | with_reducible exact Fr.refl _ _ | with_reducible assumption | ((with_reducible refine Fr.setCell ?_ ?_ _); rotate_left; (· first | (simp; done) | assumption | (simp; assumption))) | with_reducible refine Fr.drewN ?_ _ | with_reducible refine Fr.drew ?_ | with_reducible refine Fr.alloc ?_ _ | with_reducible refine Fr.trans ?_ (Fr.of_below (by with_reducible assumption))))) (by first | omega | (simp; done) | (simp; omega))) hxs j2.out j3.out j4.out (by (repeat (first | with_reducible exact Below.refl _ _ | with_reducible assumption | with_reducible refine below_alloc ?_ _ | ((with_reducible refine Below.setCell ?_ ?_ _); rotate_left; (· first | exact Nat.le_refl _ | (simp; done) | (simp; omega))) | with_reducible refine below_drewN ?_ _ | with_reducible refine Below.drew ?_ | with_reducible refine below_then ?_ (by with_reducible assumption))))).toS
end Go.Proofs.YtmnkgcjbckamnaaGreat
