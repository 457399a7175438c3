/- The order of the statements: the reference's walk. -/
import Derived.Test.YtgagbbhnifkclaaOrder
import Derived.Test.YtgagbbhnifkclaaApp
set_option linter.unusedVariables false
set_option linter.unusedSimpArgs false
set_option maxRecDepth 100000
namespace Go.Proofs.Ytgagbbhnifkclaa
open Go.RowKit
theorem cell_grow {a c : World} {B : Nat} {e : TypeId} {size n b o : Nat} {v u : Value} {xs : List Value} (ho : a.ownsRow B e size v n xs) (hg : a.grownBy c v.ownBlock) (hb : b < B) (h : a.cell? ⟨b, o, none⟩ = some u) : c.cell? ⟨b, o, none⟩ = some u :=
  hg.cell h (fun e => by have := (ho.lt b e.symm).1; omega)
theorem row_fr0 {w w' : World} {base : Nat} {e : TypeId} {size n : Nat} {v : Value} {xs : List Value} (h : w.ownsRow base e size v n xs) (hb : Below w.heap.size w w') : w'.ownsRow base e size v n xs := ownsRow_below h hb
set_option maxHeartbeats 4000000 in
theorem specL3Order (fuel : Nat) : ∀ (w : World) (lo hi blo bhi : Nat) (x0 x1 : Int) (v2 : Value) (A : Option Addr) (n c : Nat) (ss : List Stmt) (Ab : Option Addr) (nb cb : Nat) (bl : List Int) (lb : Nat)
    (h : Sl StmtR w lo hi A n c ss) (hb : Sl intR w blo bhi Ab nb cb bl) (hh : hi ≤ w.heap.size) (hh' : bhi ≤ w.heap.size) (ha : okAll ss) (hok : okB ss lb bl) (hf : ss.length ≤ lb + fuel) (hlen : (ordF ss (fuel + 1) bl).length ≤ 1099511627776) (hns : ss.length ≤ 1099511627776),
    Calls Try.prog 210 #[.agg #[.int .i64 x0, .int .i64 x1, v2, .slice A n c], .slice Ab nb cb] w (RetOwn intR 3 (ordF ss (fuel + 1) bl) w) := by
  induction fuel using Nat.strongRecOn with
  | ind fuel ih =>
    intro w lo hi blo bhi x0 x1 v2 A n c ss Ab nb cb bl lb h hb hh hh' ha hok hf hlen hns
    have IH := Lib.hid ih
    clear ih
    have e1 := Lib.hid h.lenEq
    have e2 := hb.lenEq
    have b2 := hb.lenLe
    have HA := Lib.hid ha
    have HO := Lib.hid hok
    have HM := Lib.hid (ordF_mem ha (fuel + 1) lb bl hok)
    clear ha hok
    obtain ⟨inf, hif, hz0, hz1, hz2⟩ := info_parts Try.infoInt
    go_enter Try.func210, Try.ntmps210
    go_wp2_with fail
    go_loopw [5, 10] (fun v' i wr => ∃ k : Nat, k ≤ nb ∧ i = .int .i64 k ∧ wr.ownsRow (w.heap.size + 1) 3 1 v' (ordF ss (fuel + 1) (bl.take k)).length ((ordF ss (fuel + 1) (bl.take k)).map (Value.int .i64)) ∧ Below (w.heap.size + 1) (w.alloc (.cells #[.int .i64 x0, .int .i64 x1, v2, .slice A n c] 139)) wr) (fun _ i _ => nb - (intOf i).toNat)
    case atStart => exact ⟨0, Nat.zero_le _, rfl, by simpa [ordF_nil] using World.ownsRow_nil _ _ _ _, Below.refl _ _⟩
    case round =>
      obtain ⟨k, hk, rfl, ho1, hbl⟩ := hrel
      have hbw : Below w.heap.size w wr := ((Below.refl _ w).alloc (Nat.le_refl _) _).trans (hbl.mono (Nat.le_succ _))
      by_cases hlt : k < nb
      · obtain ⟨b, o, rfl, _, _, hc1, _⟩ := (hb.below hbw hh').int_at hlt
        have hx := HO.out (bl[k]'(by omega)) (List.getElem_mem _)
        have hs0 := ordF_succ ss fuel bl k (by omega)
        have hle := ordF_take_le ss (fuel + 1) (k + 1) bl
        generalize bl[k]'(by omega) = x at hc1 hx hs0
        obtain ⟨x1', x2'⟩ := hx
        obtain ⟨j, rfl⟩ := Int.eq_ofNat_of_zero_le (show 0 ≤ x by omega)
        obtain ⟨f, rfl⟩ : ∃ f, fuel = f + 1 := ⟨fuel - 1, by omega⟩
        have hj : j < n := by have := e1.out; omega
        have hle2 := hle
        rw [hs0] at hle2
        simp only [List.length_append, List.length_cons, List.length_nil] at hle2
        have hs := Lib.hid hs0
        clear hs0 hle
        obtain ⟨bb, oo, A3, n3, c3, A4, n4, c4, rfl, hb1, hb2, hT, hE, d3, d4⟩ := stmt_blocks h hj
        have a12 := HA.out j (by omega)
        have hK3 := Lib.hid a12.1
        have hK4 := Lib.hid a12.2
        clear a12
        obtain ⟨ys, hys0⟩ : ∃ ys, ys = ordF ss (f + 1 + 1) (bl.take k) := ⟨_, rfl⟩
        rw [← hys0] at ho1 hle2
        have hyl2 : ys.length + (1 + ((ordF ss (f + 1) (thenOf ss j)).length + (ordF ss (f + 1) (elseOf ss j)).length)) ≤ 1099511627776 := by omega
        have hys := Lib.hid hys0
        clear hys0 hle2 hlen
        have hzr := hbl.size
        simp at hzr
        go_wp2_with (at_builtin; refine wpList_append_own_at _ rfl _ _ 33 rfl (w.heap.size + 1) 3 inf (.int .i64 0) 1 8 Try.underlying33 hif hz0 hz1 hz2 rfl (by decide) _ _ _ rfl (ho1.alloc _) ⟨wr.heap.size, 0, none⟩ 1 1 [.int .i64 j] rfl rfl (cell_new1 _ _ _ (by simp)) (by simp [Value.oneCell']) (by unfold maxLen; omega) (by omega) (by simp; omega) ?_)
        intro v2' w2 hown hgr _ hat
        have ho2 : w2.ownsRow (w.heap.size + 1) 3 1 v2' (ys ++ [(j : Int)]).length ((ys ++ [(j : Int)]).map (Value.int .i64)) := by simpa using hown
        have hbl2 : Below (w.heap.size + 1) (w.alloc (.cells #[.int .i64 x0, .int .i64 x1, v2, .slice (some ⟨bb, oo, none⟩) n c] 139)) w2 := (hbl.alloc (by omega) _).grown hgr (by simp; omega) (fun g hg => (ho1.lt g hg).1)
        clear hown hgr hat ho1
        have hbw2 : Below w.heap.size w w2 := ((Below.refl _ w).alloc (Nat.le_refl _) _).trans (hbl2.mono (Nat.le_succ _))
        have p20 : w2.cell? ⟨w.heap.size, 0, none⟩ = some (.int .i64 x0) := (hbl2.cell (p := ⟨w.heap.size, 0, none⟩) (by simp)).trans (by simp [go_sem])
        have p21 : w2.cell? ⟨w.heap.size, 1, none⟩ = some (.int .i64 x1) := (hbl2.cell (p := ⟨w.heap.size, 1, none⟩) (by simp)).trans (by simp [go_sem])
        have p22 : w2.cell? ⟨w.heap.size, 2, none⟩ = some (v2) := (hbl2.cell (p := ⟨w.heap.size, 2, none⟩) (by simp)).trans (by simp [go_sem])
        have p23 : w2.cell? ⟨w.heap.size, 3, none⟩ = some (.slice (some ⟨bb, oo, none⟩) n c) := (hbl2.cell (p := ⟨w.heap.size, 3, none⟩) (by simp)).trans (by simp [go_sem])
        have p24 : w2.cell? ⟨bb, oo + j * 5 + 3, none⟩ = some (.slice A3 n3 c3) := below_cell hbw2 d3
        have p25 : w2.cell? ⟨bb, oo + j * 5 + 4, none⟩ = some (.slice A4 n4 c4) := below_cell hbw2 d4
        have hS2 := h.below hbw2 hh
        have hT2 := hT.below hbw2 hh
        have hy2 : hi ≤ w2.heap.size := Nat.le_trans hh hbw2.size
        have hzi2 := hbl2.size
        simp at hzi2
        go_wp2_with fail
        go_region_held3 (fun W => W.cell? ⟨w.heap.size, 0, none⟩ = some (.int .i64 x0) ∧ W.cell? ⟨w.heap.size, 1, none⟩ = some (.int .i64 x1) ∧ W.cell? ⟨w.heap.size, 2, none⟩ = some (v2) ∧ W.cell? ⟨w.heap.size, 3, none⟩ = some (.slice (some ⟨bb, oo, none⟩) n c) ∧ W.cell? ⟨bb, oo + j * 5 + 3, none⟩ = some (.slice A3 n3 c3))
                  (first | exact ⟨p20, p21, p22, p23, p24⟩ | exact ⟨below_cell hq2 p20, below_cell hq2 p21, below_cell hq2 p22, below_cell hq2 p23, below_cell hq2 p24⟩ | exact ⟨(cell_grow oc2 hgr2 (by omega) (below_cell hq2 p20)), (cell_grow oc2 hgr2 (by omega) (below_cell hq2 p21)), (cell_grow oc2 hgr2 (by omega) (below_cell hq2 p22)), (cell_grow oc2 hgr2 (by omega) (below_cell hq2 p23)), (cell_grow oc2 hgr2 (by omega) (below_cell hq2 p24))⟩)
                  (first | (go_at_call 210; ((with_reducible refine (IH.out f (by omega) _ lo hi lo hi x0 x1 v2 _ n c ss A3 n3 c3 _ (j + 1) (hS2.below (show Below w2.heap.size w2 _ by (repeat (first | with_reducible exact Below.refl _ _ | with_reducible assumption | with_reducible refine below_alloc ?_ _ | ((with_reducible refine Below.setCell ?_ ?_ _); rotate_left; (· first | exact Nat.le_refl _ | (simp; done) | (simp; omega))) | with_reducible refine below_drewN ?_ _ | with_reducible refine Below.drew ?_ | with_reducible refine below_then ?_ (by with_reducible assumption)))) hy2) (hT2.below (show Below w2.heap.size w2 _ by (repeat (first | with_reducible exact Below.refl _ _ | with_reducible assumption | with_reducible refine below_alloc ?_ _ | ((with_reducible refine Below.setCell ?_ ?_ _); rotate_left; (· first | exact Nat.le_refl _ | (simp; done) | (simp; omega))) | with_reducible refine below_drewN ?_ _ | with_reducible refine Below.drew ?_ | with_reducible refine below_then ?_ (by with_reducible assumption)))) hy2) (Nat.le_trans hy2 (show Below w2.heap.size w2 _ by (repeat (first | with_reducible exact Below.refl _ _ | with_reducible assumption | with_reducible refine below_alloc ?_ _ | ((with_reducible refine Below.setCell ?_ ?_ _); rotate_left; (· first | exact Nat.le_refl _ | (simp; done) | (simp; omega))) | with_reducible refine below_drewN ?_ _ | with_reducible refine Below.drew ?_ | with_reducible refine below_then ?_ (by with_reducible assumption)))).size) (Nat.le_trans hy2 (show Below w2.heap.size w2 _ by (repeat (first | with_reducible exact Below.refl _ _ | with_reducible assumption | with_reducible refine below_alloc ?_ _ | ((with_reducible refine Below.setCell ?_ ?_ _); rotate_left; (· first | exact Nat.le_refl _ | (simp; done) | (simp; omega))) | with_reducible refine below_drewN ?_ _ | with_reducible refine Below.drew ?_ | with_reducible refine below_then ?_ (by with_reducible assumption)))).size) HA.out hK3.out (by omega) (by omega) hns).mono ?_); rintro e wc2 ⟨F2, Ar2, nr2, cr2, rfl, or2, fr2, hx2⟩; have hq2 : Below w2.heap.size w2 wc2 := (by (repeat (first | with_reducible exact Below.refl _ _ | with_reducible assumption | with_reducible refine below_alloc ?_ _ | ((with_reducible refine Below.setCell ?_ ?_ _); rotate_left; (· first | exact Nat.le_refl _ | (simp; done) | (simp; omega))) | with_reducible refine below_drewN ?_ _ | with_reducible refine Below.drew ?_ | with_reducible refine below_then ?_ (by with_reducible assumption)))); have oc2 := ownsRow_below ho2 hq2; have lr2 := or2.sl.lenEq; have zq2 := hq2.size; have hblc2 := hbl2.trans (hq2.mono (by omega)))) | (refine step_append_src _ (by rfl) _ _ 33 (by rfl) (w.heap.size + 1) 3 inf (.int .i64 0) 1 8 Try.underlying33 hif hz0 hz1 hz2 rfl (by decide) _ _ _ (by rfl) oc2 Ar2 nr2 cr2 _ (by rfl) (src_ints or2.sl) (ints_oneCell _) (by unfold maxLen; simp only [List.length_append, List.length_cons, List.length_nil]; omega) (by simp only [List.length_append, List.length_cons, List.length_nil]; omega) (show w.heap.size + 1 ≤ wc2.heap.size by omega) ?_; intro v3' w3 hown2 hgr2 hat2) | fail)
        have ho3 : w3.ownsRow (w.heap.size + 1) 3 1 v3' ((ys ++ [(j : Int)]) ++ ordF ss (f + 1) (thenOf ss j)).length (((ys ++ [(j : Int)]) ++ ordF ss (f + 1) (thenOf ss j)).map (Value.int .i64)) := by
          rw [List.length_append, List.map_append, lr2]; exact hown2
        have hbl3 : Below (w.heap.size + 1) (w.alloc (.cells #[.int .i64 x0, .int .i64 x1, v2, .slice (some ⟨bb, oo, none⟩) n c] 139)) w3 := hblc2.grown hgr2 (by omega) (fun g hg => (oc2.lt g hg).1)
        clear hown2 hgr2 hat2 or2 fr2 hx2 hq2 oc2 lr2 zq2 hblc2 hS2 hT2 hy2 ho2 p20 p21 p22 p23 p24 p25
        have hbw3 : Below w.heap.size w w3 := ((Below.refl _ w).alloc (Nat.le_refl _) _).trans (hbl3.mono (Nat.le_succ _))
        have p30 : w3.cell? ⟨w.heap.size, 0, none⟩ = some (.int .i64 x0) := (hbl3.cell (p := ⟨w.heap.size, 0, none⟩) (by simp)).trans (by simp [go_sem])
        have p31 : w3.cell? ⟨w.heap.size, 1, none⟩ = some (.int .i64 x1) := (hbl3.cell (p := ⟨w.heap.size, 1, none⟩) (by simp)).trans (by simp [go_sem])
        have p32 : w3.cell? ⟨w.heap.size, 2, none⟩ = some (v2) := (hbl3.cell (p := ⟨w.heap.size, 2, none⟩) (by simp)).trans (by simp [go_sem])
        have p33 : w3.cell? ⟨w.heap.size, 3, none⟩ = some (.slice (some ⟨bb, oo, none⟩) n c) := (hbl3.cell (p := ⟨w.heap.size, 3, none⟩) (by simp)).trans (by simp [go_sem])
        have p34 : w3.cell? ⟨bb, oo + j * 5 + 3, none⟩ = some (.slice A3 n3 c3) := below_cell hbw3 d3
        have p35 : w3.cell? ⟨bb, oo + j * 5 + 4, none⟩ = some (.slice A4 n4 c4) := below_cell hbw3 d4
        have hS3 := h.below hbw3 hh
        have hT3 := hE.below hbw3 hh
        have hy3 : hi ≤ w3.heap.size := Nat.le_trans hh hbw3.size
        have hzi3 := hbl3.size
        simp at hzi3
        go_wp2_with fail
        go_region_held3 (fun W => W.cell? ⟨w.heap.size, 0, none⟩ = some (.int .i64 x0) ∧ W.cell? ⟨w.heap.size, 1, none⟩ = some (.int .i64 x1) ∧ W.cell? ⟨w.heap.size, 2, none⟩ = some (v2) ∧ W.cell? ⟨w.heap.size, 3, none⟩ = some (.slice (some ⟨bb, oo, none⟩) n c) ∧ W.cell? ⟨bb, oo + j * 5 + 4, none⟩ = some (.slice A4 n4 c4))
                  (first | exact ⟨p30, p31, p32, p33, p35⟩ | exact ⟨below_cell hq3 p30, below_cell hq3 p31, below_cell hq3 p32, below_cell hq3 p33, below_cell hq3 p35⟩ | exact ⟨(cell_grow oc3 hgr3 (by omega) (below_cell hq3 p30)), (cell_grow oc3 hgr3 (by omega) (below_cell hq3 p31)), (cell_grow oc3 hgr3 (by omega) (below_cell hq3 p32)), (cell_grow oc3 hgr3 (by omega) (below_cell hq3 p33)), (cell_grow oc3 hgr3 (by omega) (below_cell hq3 p35))⟩)
                  (first | (go_at_call 210; ((with_reducible refine (IH.out f (by omega) _ lo hi lo hi x0 x1 v2 _ n c ss A4 n4 c4 _ (j + 1) (hS3.below (show Below w3.heap.size w3 _ by (repeat (first | with_reducible exact Below.refl _ _ | with_reducible assumption | with_reducible refine below_alloc ?_ _ | ((with_reducible refine Below.setCell ?_ ?_ _); rotate_left; (· first | exact Nat.le_refl _ | (simp; done) | (simp; omega))) | with_reducible refine below_drewN ?_ _ | with_reducible refine Below.drew ?_ | with_reducible refine below_then ?_ (by with_reducible assumption)))) hy3) (hT3.below (show Below w3.heap.size w3 _ by (repeat (first | with_reducible exact Below.refl _ _ | with_reducible assumption | with_reducible refine below_alloc ?_ _ | ((with_reducible refine Below.setCell ?_ ?_ _); rotate_left; (· first | exact Nat.le_refl _ | (simp; done) | (simp; omega))) | with_reducible refine below_drewN ?_ _ | with_reducible refine Below.drew ?_ | with_reducible refine below_then ?_ (by with_reducible assumption)))) hy3) (Nat.le_trans hy3 (show Below w3.heap.size w3 _ by (repeat (first | with_reducible exact Below.refl _ _ | with_reducible assumption | with_reducible refine below_alloc ?_ _ | ((with_reducible refine Below.setCell ?_ ?_ _); rotate_left; (· first | exact Nat.le_refl _ | (simp; done) | (simp; omega))) | with_reducible refine below_drewN ?_ _ | with_reducible refine Below.drew ?_ | with_reducible refine below_then ?_ (by with_reducible assumption)))).size) (Nat.le_trans hy3 (show Below w3.heap.size w3 _ by (repeat (first | with_reducible exact Below.refl _ _ | with_reducible assumption | with_reducible refine below_alloc ?_ _ | ((with_reducible refine Below.setCell ?_ ?_ _); rotate_left; (· first | exact Nat.le_refl _ | (simp; done) | (simp; omega))) | with_reducible refine below_drewN ?_ _ | with_reducible refine Below.drew ?_ | with_reducible refine below_then ?_ (by with_reducible assumption)))).size) HA.out hK4.out (by omega) (by omega) hns).mono ?_); rintro e wc3 ⟨F3, Ar3, nr3, cr3, rfl, or3, fr3, hx3⟩; have hq3 : Below w3.heap.size w3 wc3 := (by (repeat (first | with_reducible exact Below.refl _ _ | with_reducible assumption | with_reducible refine below_alloc ?_ _ | ((with_reducible refine Below.setCell ?_ ?_ _); rotate_left; (· first | exact Nat.le_refl _ | (simp; done) | (simp; omega))) | with_reducible refine below_drewN ?_ _ | with_reducible refine Below.drew ?_ | with_reducible refine below_then ?_ (by with_reducible assumption)))); have oc3 := ownsRow_below ho3 hq3; have lr3 := or3.sl.lenEq; have zq3 := hq3.size; have hblc3 := hbl3.trans (hq3.mono (by omega)))) | (refine step_append_src _ (by rfl) _ _ 33 (by rfl) (w.heap.size + 1) 3 inf (.int .i64 0) 1 8 Try.underlying33 hif hz0 hz1 hz2 rfl (by decide) _ _ _ (by rfl) oc3 Ar3 nr3 cr3 _ (by rfl) (src_ints or3.sl) (ints_oneCell _) (by unfold maxLen; simp only [List.length_append, List.length_cons, List.length_nil]; omega) (by simp only [List.length_append, List.length_cons, List.length_nil]; omega) (show w.heap.size + 1 ≤ wc3.heap.size by omega) ?_; intro v4' w4 hown3 hgr3 hat3) | fail)
        have ho4 : w4.ownsRow (w.heap.size + 1) 3 1 v4' (((ys ++ [(j : Int)]) ++ ordF ss (f + 1) (thenOf ss j)) ++ ordF ss (f + 1) (elseOf ss j)).length ((((ys ++ [(j : Int)]) ++ ordF ss (f + 1) (thenOf ss j)) ++ ordF ss (f + 1) (elseOf ss j)).map (Value.int .i64)) := by
          rw [List.length_append, List.map_append, lr3]; exact hown3
        have hbl4 : Below (w.heap.size + 1) (w.alloc (.cells #[.int .i64 x0, .int .i64 x1, v2, .slice (some ⟨bb, oo, none⟩) n c] 139)) w4 := hblc3.grown hgr3 (by omega) (fun g hg => (oc3.lt g hg).1)
        clear hown3 hgr3 hat3 or3 fr3 hx3 hq3 oc3 lr3 zq3 hblc3 hS3 hT3 hy3 ho3 p30 p31 p32 p33 p34 p35
        have hfin : w4.ownsRow (w.heap.size + 1) 3 1 v4' (ordF ss (f + 1 + 1) (bl.take (k + 1))).length ((ordF ss (f + 1 + 1) (bl.take (k + 1))).map (Value.int .i64)) := by
          have e : ordF ss (f + 1 + 1) (bl.take (k + 1)) = ((ys ++ [(j : Int)]) ++ ordF ss (f + 1) (thenOf ss j)) ++ ordF ss (f + 1) (elseOf ss j) := by rw [hs.out, hys.out]; simp
          rw [e]; exact ho4
        go_wp2_with fail
        go_roundw
        case rel => exact ⟨k + 1, by omega, by go_num, hfin, hbl4⟩
        case measure => simp [intOf]; omega
      · rw [List.take_of_length_le (by omega)] at ho1
        go_wp2_with fail
        go_ret
        exact RetOwn.ints (ho1.mono (Nat.le_succ _)) (fun x hx => by have := HM.out x hx; unfold I64; omega) hbw
end Go.Proofs.Ytgagbbhnifkclaa
