/- TidyImage: both contracts as the law takes them. -/
import Derived.Test.YtmnkgcjbckamnaaGreatTidy2
import Derived.Test.YtmnkgcjbckamnaaGreatThreadT
set_option linter.unusedVariables false
set_option linter.unusedSimpArgs false
set_option maxRecDepth 100000
namespace Go.Proofs.YtmnkgcjbckamnaaGreat
open Go.RowKit
attribute [local irreducible] wpList
/-- The call returns an image in memory of its own, and whether it is one. -/
def RetTiO (s : List Code) (b : Bool) (w : World) (e : Ending) (w' : World) : Prop :=
  ∃ A0 n0 c0 F0, e = .returned (.tuple #[.agg #[.slice A0 n0 c0], .bool b]) ∧ OwnSl CodeR w' 30 F0 (.slice A0 n0 c0) s ∧ F0.Nodup ∧ (∀ k, k ∈ F0 → w.heap.size ≤ k) ∧ Below w.heap.size w w'
def RetTiS (s : List Code) (b : Bool) (w : World) (e : Ending) (w' : World) : Prop :=
  ∃ A0 n0 c0, e = .returned (.tuple #[.agg #[.slice A0 n0 c0], .bool b]) ∧ Sl CodeR w' 0 w'.heap.size A0 n0 c0 s ∧ Below w.heap.size w w'
theorem RetTiO.mk {w w' : World} {A : Option Addr} {n c : Nat} {F : List Nat} {s : List Code} {b : Bool} (ho : OwnSl CodeR w' 30 F (.slice A n c) s) (hF : ∀ k, k ∈ F → w.heap.size ≤ k) (hb : Below w.heap.size w w') : RetTiO s b w (.returned (.tuple #[.agg #[.slice A n c], .bool b])) w' :=
  ⟨A, n, c, F, rfl, ho, ho.nodup, hF, hb⟩
theorem RetTiO.none {w w' : World} (hb : Below w.heap.size w w') : RetTiO [] false w (.returned (.tuple #[.agg #[.slice none 0 0], .bool false])) w' := RetTiO.mk (OwnSl.nil_ _ _ _) (by simp) hb
theorem RetTiO.toS {s : List Code} {b : Bool} {w : World} {e : Ending} {w' : World} (h : RetTiO s b w e w') : RetTiS s b w e w' := by
  obtain ⟨A, n, c, F, rfl, ho, _, _, hb⟩ := h
  exact ⟨A, n, c, rfl, ho.sl, hb⟩
theorem tidy_sz (x : Image) : mszLCode (tidyR x) ≤ 20000 := by
  cases h : goodI x
  · rw [tidyR_no h]; simp [mszLCode]
  · rw [tidyR_yes h]
    have hg := goodI_iff.1 h
    have hl := sizedB_len hg.1
    have key : ∀ l : List Code, (∀ c, c ∈ l → c ∈ x) → ((l.map fun c => dropF (threadF c) (checkH x (threadF c))).map mszCode).sum ≤ 2000 * l.length := by
      intro l
      induction l with
      | nil => intro _; simp
      | cons c l ih =>
        intro hm
        have a := ih fun d hd => hm d (List.mem_cons_of_mem _ hd)
        obtain ⟨k, hk, rfl⟩ := List.getElem_of_mem (hm c (List.mem_cons_self ..))
        have hf := thr_facts h hk
        have hz := dropF_sz hf.2.2.2.1 (checkH x (threadF x[k])) (checkH_len hf.2.2.1).1
        have hb : mszCode (dropF (threadF x[k]) (checkH x (threadF x[k]))) ≤ 2000 := by unfold mszCode; omega
        simp only [List.map_cons, List.sum_cons, List.length_cons] at a ⊢; omega
    have := key x (fun _ h => h)
    unfold mszLCode
    rw [tidyF_len]
    unfold tidyF
    omega
set_option maxHeartbeats 4000000 in
theorem implTidyImageC (w : World) (A : Option Addr) (n c : Nat) (x : List Code) (h : Sl CodeR w 0 w.heap.size A n c x) (_ : mszLCode x ≤ 1048576) (s : List Code) (hz : tidyR x = s) (b : Bool) (hb : goodI x = b) :
    Calls Tryz.prog 19 #[.agg #[.slice A n c]] w (RetTiO s b w) := by
  have HB := Lib.hid hb
  cases b
  · have e : s = [] := by rw [← hz, tidyR_no HB.out]
    subst e
    clear hz hb
    go_enter Tryz.func19, Tryz.ntmps19
    go_wp2_with fail
    refine (implIsImage _ 0 w.heap.size A n c x (h.below (show Below w.heap.size w _ by (repeat (first | with_reducible exact Below.refl _ _ | with_reducible assumption | with_reducible refine below_alloc ?_ _ | ((with_reducible refine Below.setCell ?_ ?_ _); rotate_left; (· first | exact Nat.le_refl _ | (simp; done) | (simp; omega))) | with_reducible refine below_drewN ?_ _ | with_reducible refine Below.drew ?_ | with_reducible refine below_then ?_ (by with_reducible assumption)))) (Nat.le_refl _)) (by first | omega | (simp; done) | (simp; omega))).mono ?_
    rintro e w2 ⟨rfl, hb2⟩
    rw [HB.out]
    obtain ⟨hcE, hfE⟩ := bcell hb2
    have r0 : w2.cell? ⟨w.heap.size + 1, 0, none⟩ = some (.slice none 0 0) := by simp [hcE, go_sem]
    have rf : ∀ j, w2.frozen? ⟨w.heap.size + 1, j, none⟩ = false := fun j => by simp [hfE, go_sem]
    have hx2 : Below w.heap.size w w2 := by (repeat (first | with_reducible exact Below.refl _ _ | with_reducible assumption | with_reducible refine below_alloc ?_ _ | ((with_reducible refine Below.setCell ?_ ?_ _); rotate_left; (· first | exact Nat.le_refl _ | (simp; done) | (simp; omega))) | with_reducible refine below_drewN ?_ _ | with_reducible refine Below.drew ?_ | with_reducible refine below_then ?_ (by with_reducible assumption)))
    clear hcE hfE hb2
    go_wp2_with fail
    refine bodyPost_ret (v := .tuple #[.agg #[.slice none 0 0], .bool false]) (by simp [results, Tryz.results19, go_sem, r0, rf]) rfl ?_
    exact RetTiO.none (by (repeat (first | with_reducible exact Below.refl _ _ | with_reducible assumption | with_reducible refine below_alloc ?_ _ | ((with_reducible refine Below.setCell ?_ ?_ _); rotate_left; (· first | exact Nat.le_refl _ | (simp; done) | (simp; omega))) | with_reducible refine below_drewN ?_ _ | with_reducible refine Below.drew ?_ | with_reducible refine below_then ?_ (by with_reducible assumption))))
  · have e : s = tidyF x := by rw [← hz, tidyR_yes HB.out]
    subst e
    clear hz hb
    go_enter Tryz.func19, Tryz.ntmps19
    go_wp2_with fail
    refine (implIsImage _ 0 w.heap.size A n c x (h.below (show Below w.heap.size w _ by (repeat (first | with_reducible exact Below.refl _ _ | with_reducible assumption | with_reducible refine below_alloc ?_ _ | ((with_reducible refine Below.setCell ?_ ?_ _); rotate_left; (· first | exact Nat.le_refl _ | (simp; done) | (simp; omega))) | with_reducible refine below_drewN ?_ _ | with_reducible refine Below.drew ?_ | with_reducible refine below_then ?_ (by with_reducible assumption)))) (Nat.le_refl _)) (by first | omega | (simp; done) | (simp; omega))).mono ?_
    rintro e w2 ⟨rfl, hb2⟩
    rw [HB.out]
    obtain ⟨hcE, hfE⟩ := bcell hb2
    have qx : w2.cell? ⟨w.heap.size, 0, none⟩ = some (.slice A n c) := by simp [hcE, go_sem]
    have r0 : w2.cell? ⟨w.heap.size + 1, 0, none⟩ = some (.slice none 0 0) := by simp [hcE, go_sem]
    have rf : ∀ j, w2.frozen? ⟨w.heap.size + 1, j, none⟩ = false := fun j => by simp [hfE, go_sem]
    have hx2 : Below w.heap.size w w2 := by (repeat (first | with_reducible exact Below.refl _ _ | with_reducible assumption | with_reducible refine below_alloc ?_ _ | ((with_reducible refine Below.setCell ?_ ?_ _); rotate_left; (· first | exact Nat.le_refl _ | (simp; done) | (simp; omega))) | with_reducible refine below_drewN ?_ _ | with_reducible refine Below.drew ?_ | with_reducible refine below_then ?_ (by with_reducible assumption)))
    have hR2 : w.heap.size + 1 < w2.heap.size := World.block_lt_of_cell? w2 _ r0
    clear hcE hfE hb2
    go_wp2_with fail
    refine (implTidyImage1 _ 0 w.heap.size A n c x (h.below (below_then hx2 (show Below w2.heap.size w2 _ by (repeat (first | with_reducible exact Below.refl _ _ | with_reducible assumption | with_reducible refine below_alloc ?_ _ | ((with_reducible refine Below.setCell ?_ ?_ _); rotate_left; (· first | exact Nat.le_refl _ | (simp; done) | (simp; omega))) | with_reducible refine below_drewN ?_ _ | with_reducible refine Below.drew ?_ | with_reducible refine below_then ?_ (by with_reducible assumption))))) (Nat.le_refl _)) (by have := hx2.size; first | omega | (simp; done) | (simp; omega)) HB.out).mono ?_
    rintro e w4 ⟨A9, n9, c9, F, rfl, ho, hF, hb4⟩
    have q0 := below_cell hb4 r0
    have qf : ∀ j, w4.frozen? ⟨w.heap.size + 1, j, none⟩ = false := fun j => below_frozen hb4 hR2 (rf j)
    have hx4 := below_then hx2 hb4
    clear r0 rf hb4 qx
    go_wp2_with fail
    refine bodyPost_ret (v := .tuple #[.agg #[.slice A9 n9 c9], .bool true]) (by simp [results, Tryz.results19, go_sem, q0, qf]) rfl ?_
    exact RetTiO.mk (ho.keep fun u hu => (show Fr [w.heap.size + 1] w4 _ by (repeat (first | with_reducible exact Fr.refl _ _ | with_reducible assumption | ((with_reducible refine Fr.setCell ?_ ?_ _); rotate_left; (· first | (simp; done) | assumption | (simp; assumption))) | with_reducible refine Fr.drewN ?_ _ | with_reducible refine Fr.drew ?_ | with_reducible refine Fr.alloc ?_ _ | with_reducible refine Fr.trans ?_ (Fr.of_below (by with_reducible assumption))))).block u (ho.lt u hu) (by have := hF u hu; simp; omega)) (fun u hu => by have := hF u hu; omega) (by (repeat (first | with_reducible exact Below.refl _ _ | with_reducible assumption | with_reducible refine below_alloc ?_ _ | ((with_reducible refine Below.setCell ?_ ?_ _); rotate_left; (· first | exact Nat.le_refl _ | (simp; done) | (simp; omega))) | with_reducible refine below_drewN ?_ _ | with_reducible refine Below.drew ?_ | with_reducible refine below_then ?_ (by with_reducible assumption))))
set_option maxHeartbeats 8000000 in
theorem specTidyImageC (w : World) (A : Option Addr) (n c : Nat) (x : List Code) (h : Sl CodeR w 0 w.heap.size A n c x) (_ : mszLCode x ≤ 1048576) (s : List Code) (hz : tidyR x = s) (b : Bool) (hb : goodI x = b) :
    Calls Tryz.prog 18 #[.agg #[.slice A n c]] w (RetTiS s b w) := by
  have HB := Lib.hid hb
  have HL := Lib.hid h.lenEq
  cases b
  · have e : s = [] := by rw [← hz, tidyR_no HB.out]
    subst e
    clear hz hb
    go_enter Tryz.func18, Tryz.ntmps18
    go_wp2_with fail
    refine (specGoodImage _ 0 w.heap.size A n c x (h.below (show Below w.heap.size w _ by (repeat (first | with_reducible exact Below.refl _ _ | with_reducible assumption | with_reducible refine below_alloc ?_ _ | ((with_reducible refine Below.setCell ?_ ?_ _); rotate_left; (· first | exact Nat.le_refl _ | (simp; done) | (simp; omega))) | with_reducible refine below_drewN ?_ _ | with_reducible refine Below.drew ?_ | with_reducible refine below_then ?_ (by with_reducible assumption)))) (Nat.le_refl _)) (by first | omega | (simp; done) | (simp; omega))).mono ?_
    rintro e w2 ⟨rfl, hb2⟩
    rw [HB.out]
    obtain ⟨hcE, hfE⟩ := bcell hb2
    have r0 : w2.cell? ⟨w.heap.size + 1, 0, none⟩ = some (.slice none 0 0) := by simp [hcE, go_sem]
    have rf : ∀ j, w2.frozen? ⟨w.heap.size + 1, j, none⟩ = false := fun j => by simp [hfE, go_sem]
    have hx2 : Below w.heap.size w w2 := by (repeat (first | with_reducible exact Below.refl _ _ | with_reducible assumption | with_reducible refine below_alloc ?_ _ | ((with_reducible refine Below.setCell ?_ ?_ _); rotate_left; (· first | exact Nat.le_refl _ | (simp; done) | (simp; omega))) | with_reducible refine below_drewN ?_ _ | with_reducible refine Below.drew ?_ | with_reducible refine below_then ?_ (by with_reducible assumption)))
    clear hcE hfE hb2
    go_wp2_with fail
    refine bodyPost_ret (v := .tuple #[.agg #[.slice none 0 0], .bool false]) (by simp [results, Tryz.results18, go_sem, r0, rf]) rfl ?_
    exact (RetTiO.none (by (repeat (first | with_reducible exact Below.refl _ _ | with_reducible assumption | with_reducible refine below_alloc ?_ _ | ((with_reducible refine Below.setCell ?_ ?_ _); rotate_left; (· first | exact Nat.le_refl _ | (simp; done) | (simp; omega))) | with_reducible refine below_drewN ?_ _ | with_reducible refine Below.drew ?_ | with_reducible refine below_then ?_ (by with_reducible assumption))))).toS
  · have e : s = tidyF x := by rw [← hz, tidyR_yes HB.out]
    subst e
    have HG := HB
    have hg' := goodI_iff.1 hb
    have HZ := Lib.hid (sizedB_mem hg'.1)
    have hn : n ≤ 1048576 := by
      have := HL.out
      have := sizedB_len hg'.1
      omega
    have b1 := h.lenLe
    clear hz hb hg'
    go_enter Tryz.func18, Tryz.ntmps18
    go_wp2_with fail
    refine (specGoodImage _ 0 w.heap.size A n c x (h.below (show Below w.heap.size w _ by (repeat (first | with_reducible exact Below.refl _ _ | with_reducible assumption | with_reducible refine below_alloc ?_ _ | ((with_reducible refine Below.setCell ?_ ?_ _); rotate_left; (· first | exact Nat.le_refl _ | (simp; done) | (simp; omega))) | with_reducible refine below_drewN ?_ _ | with_reducible refine Below.drew ?_ | with_reducible refine below_then ?_ (by with_reducible assumption)))) (Nat.le_refl _)) (by first | omega | (simp; done) | (simp; omega))).mono ?_
    rintro e w2 ⟨rfl, hb2⟩
    rw [HB.out]
    obtain ⟨hcE, hfE⟩ := bcell hb2
    have qx : w2.cell? ⟨w.heap.size, 0, none⟩ = some (.slice A n c) := by simp [hcE, go_sem]
    have r0' : w2.cell? ⟨w.heap.size + 1, 0, none⟩ = some (.slice none 0 0) := by simp [hcE, go_sem]
    have rf' : ∀ j, w2.frozen? ⟨w.heap.size + 1, j, none⟩ = false := fun j => by simp [hfE, go_sem]
    have hx2 : Below w.heap.size w w2 := by (repeat (first | with_reducible exact Below.refl _ _ | with_reducible assumption | with_reducible refine below_alloc ?_ _ | ((with_reducible refine Below.setCell ?_ ?_ _); rotate_left; (· first | exact Nat.le_refl _ | (simp; done) | (simp; omega))) | with_reducible refine below_drewN ?_ _ | with_reducible refine Below.drew ?_ | with_reducible refine below_then ?_ (by with_reducible assumption)))
    have hR2 : w.heap.size + 1 < w2.heap.size := World.block_lt_of_cell? w2 _ r0'
    clear hcE hfE hb2
    have hwz : w.heap.size < w2.heap.size := by omega
    go_upto_region 5 with fail
    obtain ⟨W0, hW0⟩ : ∃ W, W = w2.alloc (.cells #[.slice none 0 0] 35) := ⟨_, rfl⟩
    have hb20 : Below w2.heap.size w2 W0 := by rw [hW0]; (repeat (first | with_reducible exact Below.refl _ _ | with_reducible assumption | with_reducible refine below_alloc ?_ _ | ((with_reducible refine Below.setCell ?_ ?_ _); rotate_left; (· first | exact Nat.le_refl _ | (simp; done) | (simp; omega))) | with_reducible refine below_drewN ?_ _ | with_reducible refine Below.drew ?_ | with_reducible refine below_then ?_ (by with_reducible assumption)))
    have hbW0 : Below w.heap.size w W0 := below_then hx2 hb20
    obtain ⟨Y, hY⟩ : ∃ Y, Y = w2.heap.size := ⟨_, rfl⟩
    have kx0 := below_cell hb20 qx
    have k0 : W0.cell? ⟨Y, 0, none⟩ = some (.slice none 0 0) := by rw [hW0, hY]; simp [go_sem]
    have kf : W0.frozen? ⟨Y, 0, none⟩ = false := by rw [hW0, hY]; simp [go_sem]
    have r0 := below_cell hb20 r0'
    have rf : ∀ j, W0.frozen? ⟨w.heap.size + 1, j, none⟩ = false := fun j => below_frozen hb20 hR2 (rf' j)
    rw [← hW0, ← hY]
    clear hW0
    have hYw : w.heap.size + 1 < Y ∧ Y < W0.heap.size := ⟨by omega, World.block_lt_of_cell? W0 _ k0⟩
    clear hY r0' rf' qx hb20
    go_loopw [14] (fun i wr => ∃ (k : Nat) (v : Value) (F : List Nat), k ≤ n ∧ i = .int .i64 k ∧ OwnSl CodeR wr 30 F v ((tidyF x).take k) ∧ (∀ u, u ∈ F → W0.heap.size ≤ u) ∧ wr.cell? ⟨Y, 0, none⟩ = some v ∧ wr.frozen? ⟨Y, 0, none⟩ = false ∧ Fr [Y] W0 wr) (fun i _ => n - (intOf i).toNat)
    case atStart => exact ⟨0, _, [], Nat.zero_le _, rfl, OwnSl.nil_ _ _ _, by simp, k0, kf, Fr.refl _ _⟩
    case round =>
      clear k0 kf
      obtain ⟨k, v, F, hk, rfl, ho, hF, kY, kYf, hf⟩ := hrel
      have hzr := hf.size
      have hbw : Below w.heap.size w wr := below_fr hbW0 hf (by first | omega | (simp; done) | (simp; omega))
      by_cases hlt : k < n
      · have kx := cell_fr hf (by simp; omega) kx0
        obtain ⟨bc, oc, z0, z1, D2, m2, d2, t2, D3, m3, d3, t3, D4, m4, d4, t4, rfl, _, hbb, hlc, i0, i1, kS2, kS3, kS4, v0, v1, v2, v3, v4⟩ := Code_at (h.below hbw (Nat.le_refl _)) hlt
        have hkx : k < x.length := by have := HL.out; omega
        have hf5 := thr_facts HG.out hkx
        have hsz := codeSz_len (HZ.out _ (List.getElem_mem hkx))
        have hgo := (codeF_0 ((goodI_iff.1 HG.out).2.2 _ (List.getElem_mem hkx))).2.1
        have hthr : thrB (z0, z1, t2, t3, t4) = true := by unfold thrB; rw [← hlc, HZ.out _ (List.getElem_mem hkx), hgo]; rfl
        rw [hlc] at hsz hgo
        simp only at hsz hgo
        have HTHR := Lib.hid hthr
        have hX : threadF x[k] = (z0, z1, t2, t3.map (thrI t3), t4) := by rw [hlc]; rfl
        have HSZ := Lib.hid (show codeSz (z0, z1, t2, t3.map (thrI t3), t4) = true by rw [← hX]; exact hf5.2.2.2.1)
        have HC0 := Lib.hid (show codeF x (z0, z1, t2, t3.map (thrI t3), t4) = 0 by rw [← hX]; exact hf5.2.2.1)
        obtain ⟨H, HH0⟩ : ∃ H, checkH x (z0, z1, t2, t3.map (thrI t3), t4) = H := ⟨_, rfl⟩
        have HST := Lib.hid (show (tidyF x).take (k + 1) = (tidyF x).take k ++ [(z0, z1, t2, dropK (patI H) (t3.map (thrI t3)) H (t3.map (thrI t3)).length, dropRows H t4)] by
          rw [tidyF_take hkx, hX, HH0]; rfl)
        have HH := Lib.hid HH0
        have l3 := kS3.lenEq
        have j2 := Lib.hid (sl_ints_ok kS2)
        have jt3 := Lib.hid (show ∀ i, i ∈ t3.map (thrI t3) → okIns i from fun i hi => by
          obtain ⟨y, hy, rfl⟩ := List.mem_map.1 hi
          exact thrI_ok hgo (by omega) hy (sl_ins_ok kS3 y hy))
        have j3 := Lib.hid (dropK_ok (h := H) (k := (t3.map (thrI t3)).length) (I := t3.map (thrI t3)) jt3.out)
        have j4 := Lib.hid (dropRows_ok (h := H) (sl_rows_ok kS4))
        have j4s := Lib.hid (sl_rows_ok kS4)
        have hlen : ((tidyF x).take k).length ≤ 1048576 := by simp; omega
        have hlF := ho.lt
        have hHLw : w.heap.size < wr.heap.size := by omega
        clear hsz hgo hthr hlc HH0 l3 hX hf5
        go_upto_region 7 with fail
        obtain ⟨wS, hwS⟩ : ∃ W, W = wr.alloc (.cells #[.int .i64 z0, .int .i64 z1, .slice D2 m2 d2, .slice D3 m3 d3, .slice D4 m4 d4] 30) := ⟨_, rfl⟩
        have hbS : Below wr.heap.size wr wS := by rw [hwS]; (repeat (first | with_reducible exact Below.refl _ _ | with_reducible assumption | with_reducible refine below_alloc ?_ _ | ((with_reducible refine Below.setCell ?_ ?_ _); rotate_left; (· first | exact Nat.le_refl _ | (simp; done) | (simp; omega))) | with_reducible refine below_drewN ?_ _ | with_reducible refine Below.drew ?_ | with_reducible refine below_then ?_ (by with_reducible assumption)))
        have hSz := hbS.size
        have kxS := below_cell hbS kx
        have hSS := Lib.hid (show ∀ V, Below wS.heap.size wS V → V.cell? ⟨w.heap.size, 0, none⟩ = some (.slice (some ⟨bc, oc, none⟩) n c) ∧ V.cell? ⟨wr.heap.size, 0, none⟩ = some (.int .i64 z0) ∧ V.cell? ⟨wr.heap.size, 1, none⟩ = some (.int .i64 z1) ∧ V.cell? ⟨wr.heap.size, 2, none⟩ = some (.slice D2 m2 d2) ∧ V.cell? ⟨wr.heap.size, 3, none⟩ = some (.slice D3 m3 d3) ∧ V.cell? ⟨wr.heap.size, 4, none⟩ = some (.slice D4 m4 d4) from fun V hV => by
          refine ⟨below_cell hV kxS, below_cell hV ?_, below_cell hV ?_, below_cell hV ?_, below_cell hV ?_, below_cell hV ?_⟩ <;> (rw [hwS]; simp [go_sem]))
        have nS := below_cell hbS kY
        have nfS := below_frozen hbS (show Y < wr.heap.size by omega) kYf
        have hoS := ho.below hbS
        have hbwS : Below w.heap.size w wS := below_then hbw hbS
        have hhS : w.heap.size ≤ wS.heap.size := hbwS.size
        replace kS2 := kS2.below hbS (by omega)
        replace kS3 := kS3.below hbS (by omega)
        replace kS4 := kS4.below hbS (by omega)
        have hfS : Fr [Y] W0 wS := hf.trans (Fr.of_below hbS)
        rw [← hwS]
        clear hwS v0 v1 v2 v3 v4 ho hf kY kYf kx kxS
        refine wp_region_noPanic ?_
        refine wp_region_cut (S := (fun V => V.cell? ⟨Y, 0, none⟩ = some v ∧ V.cell? ⟨w.heap.size, 0, none⟩ = some (.slice (some ⟨bc, oc, none⟩) n c) ∧ V.cell? ⟨wr.heap.size, 0, none⟩ = some (.int .i64 z0) ∧ V.cell? ⟨wr.heap.size, 1, none⟩ = some (.int .i64 z1) ∧ V.cell? ⟨wr.heap.size, 2, none⟩ = some (.slice D2 m2 d2) ∧ V.cell? ⟨wr.heap.size, 3, none⟩ = some (.slice D3 m3 d3) ∧ V.cell? ⟨wr.heap.size, 4, none⟩ = some (.slice D4 m4 d4))) 9 (by kernel_rfl) (by kernel_rfl) (⟨nS, hSS.out _ (show Below wS.heap.size wS _ by (repeat (first | with_reducible exact Below.refl _ _ | with_reducible assumption | with_reducible refine below_alloc ?_ _ | ((with_reducible refine Below.setCell ?_ ?_ _); rotate_left; (· first | exact Nat.le_refl _ | (simp; done) | (simp; omega))) | with_reducible refine below_drewN ?_ _ | with_reducible refine Below.drew ?_ | with_reducible refine below_then ?_ (by with_reducible assumption))))⟩) (fun hR0 => ?_)
        simp only [headOps, List.take_succ_cons, List.take_zero]
        refine wpAnyH_take (i := 0) (v := ?_) rfl (by kernel_rfl) (by kernel_rfl) (by kernel_rfl) (fun _ _ _ h => h) (Or.inl ⟨by rfl, ?_⟩) (by assumption) ?_
        rotate_left 1
        · intro w hSw; (try dsimp only at hSw); go_simp; (try with_reducible rfl)
        try simp only [Act.put, List.getElem_toArray, List.getElem_cons_zero, List.getElem_cons_succ, List.setIfInBounds_toArray, List.set_cons_zero, List.set_cons_succ]
        refine wpAnyH_take (i := 1) (v := ?_) rfl (by kernel_rfl) (by kernel_rfl) (by kernel_rfl) (fun _ _ _ h => h) (Or.inl ⟨by rfl, ?_⟩) (by assumption) ?_
        rotate_left 1
        · intro w hSw; (try dsimp only at hSw); go_simp; (try with_reducible rfl)
        try simp only [Act.put, List.getElem_toArray, List.getElem_cons_zero, List.getElem_cons_succ, List.setIfInBounds_toArray, List.set_cons_zero, List.set_cons_succ]
        refine wpAnyH_take (i := 2) (v := ?_) rfl (by kernel_rfl) (by kernel_rfl) (by kernel_rfl) (fun _ _ _ h => h) (Or.inl ⟨by rfl, ?_⟩) (by assumption) ?_
        rotate_left 1
        · intro w hSw; (try dsimp only at hSw); go_simp; (try with_reducible rfl)
        try simp only [Act.put, List.getElem_toArray, List.getElem_cons_zero, List.getElem_cons_succ, List.setIfInBounds_toArray, List.set_cons_zero, List.set_cons_succ]
        refine wpAnyH_take (i := 3) (v := ?_) rfl (by kernel_rfl) (by kernel_rfl) (by kernel_rfl) (fun _ _ _ h => h) (Or.inl ⟨by rfl, ?_⟩) (by assumption) ?_
        rotate_left 1
        · intro w hSw; (try dsimp only at hSw); go_simp; (try with_reducible rfl)
        try simp only [Act.put, List.getElem_toArray, List.getElem_cons_zero, List.getElem_cons_succ, List.setIfInBounds_toArray, List.set_cons_zero, List.set_cons_succ]
        refine wpAnyH_ready (rs := [4]) (by kernel_rfl) (by simp) ?_
        refine AllReadyH.cons (i := 4) rfl (fun K hK => ?_) AllReadyH.nil
        go_simp
        go_at_call 57
        ((with_reducible refine (specL13Thread _ 0 w.heap.size z0 z1 D2 D3 D4 m2 d2 m3 d3 m4 d4 t2 t3 t4 (kS2.below (show Below wS.heap.size wS _ by (repeat (first | with_reducible exact Below.refl _ _ | with_reducible assumption | with_reducible refine below_alloc ?_ _ | ((with_reducible refine Below.setCell ?_ ?_ _); rotate_left; (· first | exact Nat.le_refl _ | (simp; done) | (simp; omega))) | with_reducible refine below_drewN ?_ _ | with_reducible refine Below.drew ?_ | with_reducible refine below_then ?_ (by with_reducible assumption)))) hhS) (kS3.below (show Below wS.heap.size wS _ by (repeat (first | with_reducible exact Below.refl _ _ | with_reducible assumption | with_reducible refine below_alloc ?_ _ | ((with_reducible refine Below.setCell ?_ ?_ _); rotate_left; (· first | exact Nat.le_refl _ | (simp; done) | (simp; omega))) | with_reducible refine below_drewN ?_ _ | with_reducible refine Below.drew ?_ | with_reducible refine below_then ?_ (by with_reducible assumption)))) hhS) (kS4.below (show Below wS.heap.size wS _ by (repeat (first | with_reducible exact Below.refl _ _ | with_reducible assumption | with_reducible refine below_alloc ?_ _ | ((with_reducible refine Below.setCell ?_ ?_ _); rotate_left; (· first | exact Nat.le_refl _ | (simp; done) | (simp; omega))) | with_reducible refine below_drewN ?_ _ | with_reducible refine Below.drew ?_ | with_reducible refine below_then ?_ (by with_reducible assumption)))) hhS) (by first | omega | (simp; done) | (simp; omega)) HTHR.out).mono ?_); rintro e w4 ⟨E2, a2, f2, E3, a3, f3, E4, a4, f4, rfl, hcd4, hb4⟩; have b4 : Below wS.heap.size wS w4 := (by (repeat (first | with_reducible exact Below.refl _ _ | with_reducible assumption | with_reducible refine below_alloc ?_ _ | ((with_reducible refine Below.setCell ?_ ?_ _); rotate_left; (· first | exact Nat.le_refl _ | (simp; done) | (simp; omega))) | with_reducible refine below_drewN ?_ _ | with_reducible refine Below.drew ?_ | with_reducible refine below_then ?_ (by with_reducible assumption)))); have z4 := b4.size; have nS4 := below_cell b4 nS; have o2 := (own_ints hcd4.r2 j2.out).sl; have o3 := (show OwnSl InsR w4 119 _ (.slice E3 a3 f3) (t3.map (thrI t3)) from own_flat hcd4.r3 (fun y hy => ins_own (jt3.out y hy))).sl; have o4 := (show OwnSl RowR w4 97 _ (.slice E4 a4 f4) t4 from own_flat hcd4.r4 (fun y hy => row_own (j4s.out y hy))).sl; have hx4 := (h.next (below_then hbwS b4)))
        go_wp2_with fail
        refine hK.out _ _ (⟨nS4, hSS.out _ b4⟩) (fun hR4 => ?_)
        clear hK K
        try simp only [Act.put, List.getElem_toArray, List.getElem_cons_zero, List.getElem_cons_succ, List.setIfInBounds_toArray, List.set_cons_zero, List.set_cons_succ]
        refine wpAnyH_ready (rs := [5]) (by kernel_rfl) (by simp) ?_
        refine AllReadyH.cons (i := 5) rfl (fun K hK => ?_) AllReadyH.nil
        go_simp
        go_at_call 43
        ((with_reducible refine (specL13Drop1 _ 0 w4.heap.size (some ⟨bc, oc, none⟩) n c x (hx4.below (show Below w4.heap.size w4 _ by (repeat (first | with_reducible exact Below.refl _ _ | with_reducible assumption | with_reducible refine below_alloc ?_ _ | ((with_reducible refine Below.setCell ?_ ?_ _); rotate_left; (· first | exact Nat.le_refl _ | (simp; done) | (simp; omega))) | with_reducible refine below_drewN ?_ _ | with_reducible refine Below.drew ?_ | with_reducible refine below_then ?_ (by with_reducible assumption)))) (Nat.le_refl _)) (by first | omega | (simp; done) | (simp; omega)) HZ.out z0 z1 E2 E3 E4 a2 f2 a3 f3 a4 f4 t2 (t3.map (thrI t3)) t4 (o2.below (show Below w4.heap.size w4 _ by (repeat (first | with_reducible exact Below.refl _ _ | with_reducible assumption | with_reducible refine below_alloc ?_ _ | ((with_reducible refine Below.setCell ?_ ?_ _); rotate_left; (· first | exact Nat.le_refl _ | (simp; done) | (simp; omega))) | with_reducible refine below_drewN ?_ _ | with_reducible refine Below.drew ?_ | with_reducible refine below_then ?_ (by with_reducible assumption)))) (Nat.le_refl _)) (o3.below (show Below w4.heap.size w4 _ by (repeat (first | with_reducible exact Below.refl _ _ | with_reducible assumption | with_reducible refine below_alloc ?_ _ | ((with_reducible refine Below.setCell ?_ ?_ _); rotate_left; (· first | exact Nat.le_refl _ | (simp; done) | (simp; omega))) | with_reducible refine below_drewN ?_ _ | with_reducible refine Below.drew ?_ | with_reducible refine below_then ?_ (by with_reducible assumption)))) (Nat.le_refl _)) (o4.below (show Below w4.heap.size w4 _ by (repeat (first | with_reducible exact Below.refl _ _ | with_reducible assumption | with_reducible refine below_alloc ?_ _ | ((with_reducible refine Below.setCell ?_ ?_ _); rotate_left; (· first | exact Nat.le_refl _ | (simp; done) | (simp; omega))) | with_reducible refine below_drewN ?_ _ | with_reducible refine Below.drew ?_ | with_reducible refine below_then ?_ (by with_reducible assumption)))) (Nat.le_refl _)) HSZ.out HC0.out H HH.out).mono ?_); rintro e w5 ⟨B2, p2, q2, B3, p3, q3, B4, p4, q4, rfl, hcd, hb5⟩; have b45 : Below w4.heap.size w4 w5 := (by (repeat (first | with_reducible exact Below.refl _ _ | with_reducible assumption | with_reducible refine below_alloc ?_ _ | ((with_reducible refine Below.setCell ?_ ?_ _); rotate_left; (· first | exact Nat.le_refl _ | (simp; done) | (simp; omega))) | with_reducible refine below_drewN ?_ _ | with_reducible refine Below.drew ?_ | with_reducible refine below_then ?_ (by with_reducible assumption)))); have b5 : Below wS.heap.size wS w5 := below_then b4 b45; have z5 := b5.size; have nS5 := below_cell b5 nS; obtain ⟨Fc, hC, hFc⟩ := cd_own hcd i0 i1 j2.out j3.out j4.out)
        go_wp2_with fail
        refine hK.out _ _ (⟨nS5, hSS.out _ b5⟩) (fun hR5 => ?_)
        clear hK K
        try simp only [Act.put, List.getElem_toArray, List.getElem_cons_zero, List.getElem_cons_succ, List.setIfInBounds_toArray, List.set_cons_zero, List.set_cons_succ]
        refine wpAnyH_ready (rs := [6]) (by kernel_rfl) (by simp) ?_
        refine AllReadyH.cons (i := 6) rfl (fun K hK => ?_) AllReadyH.nil
        go_simp
        refine hK.out _ _ (⟨below_cell (show Below w5.heap.size w5 _ by (repeat (first | with_reducible exact Below.refl _ _ | with_reducible assumption | with_reducible refine below_alloc ?_ _ | ((with_reducible refine Below.setCell ?_ ?_ _); rotate_left; (· first | exact Nat.le_refl _ | (simp; done) | (simp; omega))) | with_reducible refine below_drewN ?_ _ | with_reducible refine Below.drew ?_ | with_reducible refine below_then ?_ (by with_reducible assumption)))) nS5, hSS.out _ (show Below wS.heap.size wS _ by (repeat (first | with_reducible exact Below.refl _ _ | with_reducible assumption | with_reducible refine below_alloc ?_ _ | ((with_reducible refine Below.setCell ?_ ?_ _); rotate_left; (· first | exact Nat.le_refl _ | (simp; done) | (simp; omega))) | with_reducible refine below_drewN ?_ _ | with_reducible refine Below.drew ?_ | with_reducible refine below_then ?_ (by with_reducible assumption))))⟩) (fun hR6 => ?_)
        clear hK K
        try simp only [Act.put, List.getElem_toArray, List.getElem_cons_zero, List.getElem_cons_succ, List.setIfInBounds_toArray, List.set_cons_zero, List.set_cons_succ]
        refine wpAnyH_ready (rs := [7]) (by kernel_rfl) (by simp) ?_
        refine AllReadyH.cons (i := 7) rfl (fun K hK => ?_) AllReadyH.nil
        refine step_code w5 (by rfl) _ _ (by rfl) v ((tidyF x).take k) F (by rfl) (hoS.below b5) z0 z1 B2 B3 B4 p2 q2 p3 q3 p4 q4 _ Fc hC (fun u h1 h2 => by (have q1 := (hFc u h1).1; have q2 := hlF u h2; (try simp only [heap_drew] at q1); omega)) (by rfl) hlen ?_
        intro A8 m8 d8 w8 F8 o8 fr8 hF8
        have nS8 := cell_fr fr8 (fun hm => by have := hF _ hm; omega) nS5
        obtain ⟨p0, p1, p2', p3', p4', p5'⟩ := hSS.out w5 b5
        have k0 := cell_fr fr8 (fun hm => by have := hF _ hm; omega) p0
        have k1 := cell_fr fr8 (fun hm => by have := hlF _ hm; omega) p1
        have k2 := cell_fr fr8 (fun hm => by have := hlF _ hm; omega) p2'
        have k3 := cell_fr fr8 (fun hm => by have := hlF _ hm; omega) p3'
        have k4 := cell_fr fr8 (fun hm => by have := hlF _ hm; omega) p4'
        have k5 := cell_fr fr8 (fun hm => by have := hlF _ hm; omega) p5'
        have nf8 : w8.frozen? ⟨Y, 0, none⟩ = false := frozen_fr fr8 (fun hm => by have := hF _ hm; omega) (by omega) (below_frozen b5 (show Y < wS.heap.size by omega) nfS)
        clear p0 p1 p2' p3' p4' p5'
        refine hK.out _ _ (⟨nS8, k0, k1, k2, k3, k4, k5⟩) (fun hR7 => ?_)
        clear hK K
        try simp only [Act.put, List.getElem_toArray, List.getElem_cons_zero, List.getElem_cons_succ, List.setIfInBounds_toArray, List.set_cons_zero, List.set_cons_succ]
        refine wpAnyH_take (i := 8) (v := ?_) rfl (by kernel_rfl) (by kernel_rfl) (by kernel_rfl) (fun _ _ _ h => h) (Or.inl ⟨by rfl, ?_⟩) (by assumption) ?_
        rotate_left 1
        · intro w hSw; (try dsimp only at hSw); go_simp; (try with_reducible rfl)
        try simp only [Act.put, List.getElem_toArray, List.getElem_cons_zero, List.getElem_cons_succ, List.setIfInBounds_toArray, List.set_cons_zero, List.set_cons_succ]
        refine wpAnyH_done (by kernel_rfl) ?_ _
        refine lastQ_op rfl (fun K hK => ?_)
        rw [if_pos (by rfl)]
        go_simp
        refine hK _ _ ?_
        clear hK K
        refine NoPanic.normal ?_
        have hF9 : ∀ u, u ∈ F8 → W0.heap.size ≤ u := fun u hu => by
          rcases hF8 u hu with hm | hm | hm
          · exact hF u hm
          · have := (hFc u hm).1; (try simp only [heap_drew] at this); omega
          · omega
        have ho9 : OwnSl CodeR (w8.setCell ⟨Y, 0, none⟩ (.slice A8 m8 d8)) 30 F8 (.slice A8 m8 d8) ((tidyF x).take (k + 1)) := by
          rw [HST.out]
          exact o8.keep fun u hu => Below.heap_setCell _ _ _ _ (by have := hF9 u hu; show u ≠ Y; omega)
        have fr9 : Fr [Y] W0 (w8.setCell ⟨Y, 0, none⟩ (.slice A8 m8 d8)) := (fr_new (hfS.trans (Fr.of_below b5)) fr8 hF).setCell (p := ⟨Y, 0, none⟩) (by simp) _
        clear o8 fr8 hF8 hC hFc hcd hoS hfS b5
        go_wp2_with fail
        go_roundw
        case rel => exact ⟨k + 1, _, F8, by omega, by go_num, ho9, hF9, by simp [go_sem, nS8], by simp [go_sem, nf8], fr9⟩
        case measure => simp [intOf]; omega
      · rw [List.take_of_length_le (by rw [tidyF_len]; have := HL.out; omega)] at ho
        obtain ⟨A9, n9, c9, hv9, h9⟩ := ho.form
        subst hv9
        clear h9
        have g0 := cell_fr hf (by simp; omega) r0
        have gf : ∀ j, wr.frozen? ⟨w.heap.size + 1, j, none⟩ = false := fun j => frozen_fr hf (by simp; omega) (by omega) (rf j)
        have hYr : Y < wr.heap.size := by omega
        clear r0 rf hf
        go_wp2_with fail
        refine bodyPost_ret (v := .tuple #[.agg #[.slice A9 n9 c9], .bool true]) (by simp [results, Tryz.results18, go_sem, g0, gf]) rfl ?_
        exact (RetTiO.mk (ho.keep fun u hu => (show Fr [w.heap.size + 1] wr _ by (repeat (first | with_reducible exact Fr.refl _ _ | with_reducible assumption | ((with_reducible refine Fr.setCell ?_ ?_ _); rotate_left; (· first | (simp; done) | assumption | (simp; assumption))) | with_reducible refine Fr.drewN ?_ _ | with_reducible refine Fr.drew ?_ | with_reducible refine Fr.alloc ?_ _ | with_reducible refine Fr.trans ?_ (Fr.of_below (by with_reducible assumption))))).block u (ho.lt u hu) (by have := hF u hu; simp; omega)) (fun u hu => by have := hF u hu; omega) (by (repeat (first | with_reducible exact Below.refl _ _ | with_reducible assumption | with_reducible refine below_alloc ?_ _ | ((with_reducible refine Below.setCell ?_ ?_ _); rotate_left; (· first | exact Nat.le_refl _ | (simp; done) | (simp; omega))) | with_reducible refine below_drewN ?_ _ | with_reducible refine Below.drew ?_ | with_reducible refine below_then ?_ (by with_reducible assumption))))).toS
end Go.Proofs.YtmnkgcjbckamnaaGreat
