/- The code of a statement, of a block: the reference's walk. Printed by lowcgen.py. -/
import Derived.Test.YtgagbbhnifkclaaFlatR
import Derived.Test.YtgagbbhnifkclaaOrder
import Derived.RegionTactic
set_option linter.unusedVariables false
set_option linter.unusedSimpArgs false
set_option maxRecDepth 100000
namespace Go.Proofs.Ytgagbbhnifkclaa
open Go.RowKit
/-- What a block's call does (with so much fuel). -/
def SpcBlk (f : Nat) : Prop := ∀ (w : World) (lo hi : Nat) (y y' : Int) (v2 : Value) (A : Option Addr) (n c : Nat) (ss : List Stmt) (Ab : Option Addr) (nb cb : Nat) (bl : List Int) (lb a : Nat) (z : Int),
  Sl StmtR w lo hi A n c ss → Sl intR w lo hi Ab nb cb bl → hi ≤ w.heap.size → okAll ss → lowOk ss → okB ss lb bl → ss.length ≤ lb + f → ss.length ≤ 1048576 → z = (a : Int) → a + (codeB ss (f + 1) a bl).length ≤ 1073741824 →
  Calls Try.prog 176 #[.agg #[.int .i64 y, .int .i64 y', v2, .slice A n c], .slice Ab nb cb, .int .i64 z] w (RetIns (codeB ss (f + 1) a bl) w)
set_option maxHeartbeats 4000000 in
theorem specStmtC (f : Nat) (IH0 : SpcBlk f) (w : World) (lo hi : Nat) (y y' : Int) (v2 : Value) (A : Option Addr) (n c : Nat) (ss : List Stmt) (j a : Nat) (z : Int)
    (h : Sl StmtR w lo hi A n c ss) (hh : hi ≤ w.heap.size) (ha : okAll ss) (hlo : lowOk ss) (hj : j < n) (hf : ss.length ≤ j + 1 + f) (hn : n ≤ 1048576) (hz0 : z = (a : Int)) (hl : a + (stmtC ss (codeB ss (f + 1)) (j : Int) a).length ≤ 1073741824) :
    Calls Try.prog 219 #[.agg #[.int .i64 y, .int .i64 y', v2, .slice A n c], .int .i64 j, .int .i64 z] w (RetIns (stmtC ss (codeB ss (f + 1)) (j : Int) a) w) := by
  subst hz0
  replace h := h.more (Nat.zero_le lo) hh
  have hh : w.heap.size ≤ w.heap.size := Nat.le_refl _
  have e1 := h.lenEq
  have IH := Lib.hid IH0
  obtain ⟨b, o, y0, y1, A2, n2, c2', ex, A3, n3, c3', s3, A4, n4, c4', s4, rfl, hb1, hb2, hl0, i0, i1, h2, h3, h4, d0, d1, d2, d3, d4⟩ := Stmt_at h hj
  have hE := exOf_at (ss := ss) (k := j) (by omega)
  rw [hl0] at hE
  obtain ⟨E1, E2, E3, E4, E5⟩ := hE
  have hS := hlo _ (List.getElem_mem (by omega : j < ss.length))
  rw [hl0] at hS
  obtain ⟨⟨k1, k9⟩, hex0, hexl, hny, htk⟩ := hS
  have a12 := ha j (by omega)
  rw [E4, E5] at a12
  have HA := Lib.hid ha
  have HLO := Lib.hid hlo
  have HT : Hid (okB ss (j + 1) s3) := Lib.hid a12.1
  have HEl : Hid (okB ss (j + 1) s4) := Lib.hid a12.2
  have HTK : Hid (lowT ex) := Lib.hid htk
  have HE1 := Lib.hid E1
  have HE2 := Lib.hid E2
  have HE3 := Lib.hid E3
  have HE4 := Lib.hid E4
  have HE5 := Lib.hid E5
  have HZL := Lib.hid hl
  generalize hzs : stmtC ss (codeB ss (f + 1)) (j : Int) a = zs at HZL ⊢
  have HZ0 := Lib.hid hzs
  simp only at hny hexl
  have lex := h2.lenEq
  have hn2 : n2 ≤ 12 := by omega
  have HLX := Lib.hid lex
  have ha30 : a ≤ 1073741824 := by omega
  clear a12 ha hlo htk hl0 E1 E2 E3 E4 E5 IH0 hzs hl hex0 lex
  go_enter Try.func219, Try.ntmps219
  go_wp2_with fail
  obtain ⟨w1, hw1⟩ : ∃ w1, w1 = (w.alloc (.cells #[.int .i64 y, .int .i64 y', v2, .slice (some ⟨b, o, none⟩) n c] 139)).alloc (.cells #[.int .i64 y0, .int .i64 y1, .slice A2 n2 c2', .slice A3 n3 c3', .slice A4 n4 c4'] 154) := ⟨_, rfl⟩
  have xs0 : w1.cell? ⟨w.heap.size + 1, 0, none⟩ = some (.int .i64 y0) := by rw [hw1]; simp [go_sem]
  have xs1 : w1.cell? ⟨w.heap.size + 1, 1, none⟩ = some (.int .i64 y1) := by rw [hw1]; simp [go_sem]
  have xs2 : w1.cell? ⟨w.heap.size + 1, 2, none⟩ = some (.slice A2 n2 c2') := by rw [hw1]; simp [go_sem]
  have xs3 : w1.cell? ⟨w.heap.size + 1, 3, none⟩ = some (.slice A3 n3 c3') := by rw [hw1]; simp [go_sem]
  have xs4 : w1.cell? ⟨w.heap.size + 1, 4, none⟩ = some (.slice A4 n4 c4') := by rw [hw1]; simp [go_sem]
  have xf0 : w1.cell? ⟨w.heap.size, 0, none⟩ = some (.int .i64 y) := by rw [hw1]; simp [go_sem]
  have xf1 : w1.cell? ⟨w.heap.size, 1, none⟩ = some (.int .i64 y') := by rw [hw1]; simp [go_sem]
  have xf2 : w1.cell? ⟨w.heap.size, 2, none⟩ = some v2 := by rw [hw1]; simp [go_sem]
  have xf3 : w1.cell? ⟨w.heap.size, 3, none⟩ = some (.slice (some ⟨b, o, none⟩) n c) := by rw [hw1]; simp [go_sem]
  have hb1 : Below w.heap.size w w1 := by rw [hw1]; (repeat (first | with_reducible exact Below.refl _ _ | with_reducible assumption | with_reducible refine below_alloc ?_ _ | ((with_reducible refine Below.setCell ?_ ?_ _); rotate_left; (· first | exact Nat.le_refl _ | (simp; done) | (simp; omega))) | with_reducible refine below_drewN ?_ _ | with_reducible refine Below.drew ?_ | with_reducible refine below_then ?_ (by with_reducible assumption)))
  have hB : w.heap.size + 1 < w1.heap.size := World.block_lt_of_cell? w1 _ xs0
  have h21 := h2.below hb1 (Nat.le_refl _)
  clear d0 d1 d2 d3 d4
  try rw [← hw1]
  clear hw1
  obtain ⟨B, hB0⟩ : ∃ B, B = w1.heap.size := ⟨_, rfl⟩
  have hBw : w.heap.size + 1 < B := by omega
  refine (specL6Expr _ 0 w.heap.size A2 n2 c2' ex h21 (by omega) (by omega) HTK.out).mono ?_
  rintro e w2 ⟨F2, Ar, nr, cr, rfl, or2, fr2, hx2⟩
  have hrl := or2.sl.lenEq
  rw [List.length_map] at hrl
  have hr12 : nr ≤ 12 := by omega
  have HR := Lib.hid hrl
  have hS : SpcRun w1 B w2 (.slice Ar nr cr) (ex.map tokIns) := ⟨own_insRow (e := 165) or2 (fun k hk => by rw [hB0]; exact fr2 k hk), by rw [hB0]; exact hx2, by rw [hB0]; exact hx2.size⟩
  clear hrl or2 fr2 hx2 hB0 h21 h2
  have hk : y0 = 1 ∨ y0 = 2 ∨ y0 = 3 ∨ y0 = 4 ∨ y0 = 5 ∨ y0 = 6 ∨ y0 = 7 ∨ y0 = 8 ∨ y0 = 9 := by omega
  rcases hk with rfl | rfl | rfl | rfl | rfl | rfl | rfl | rfl | rfl
  · have us0w2 := hS.cell (by omega) xs0
    have us1w2 := hS.cell (by omega) xs1
    have HZ := Lib.hid (show ex.map tokIns ++ [(3, y1)] = zs by rw [← HZ0.out, stmtC_1 HE2.out HE1.out HE3.out])
    have hm6 : ∀ o, Below w2.heap.size w2 (w2.alloc o) := fun o => Below.alloc (Below.refl _ _) (Nat.le_refl _) o
    have hz6 := hS.sz
    go_wp2_with (at_builtin; refine wpl_app1 _ rfl _ _ rfl B (Value.slice Ar nr cr) (ex.map tokIns) rfl (hS.row.below (hm6 _)) ⟨w2.heap.size, 0, none⟩ 1 3 y1 rfl (cell_new2 _ _ _ _ (by simp)) (by rw [List.length_map]; omega) (by simp; omega) ?_)
    intro v6 w6 hown hgr hat
    have hS6 := hS.app (hm6 _) hgr hown
    go_wp2_with fail
    go_ret
    exact (hS6.eq (HZ.out)).ret hb1 (by omega)
  · have us0w2 := hS.cell (by omega) xs0
    have HZ := Lib.hid (show ex.map tokIns ++ [(8, 0)] = zs by rw [← HZ0.out, stmtC_2 HE2.out HE1.out])
    have hm6 : ∀ o, Below w2.heap.size w2 (w2.alloc o) := fun o => Below.alloc (Below.refl _ _) (Nat.le_refl _) o
    have hz6 := hS.sz
    go_wp2_with (at_builtin; refine wpl_app1 _ rfl _ _ rfl B (Value.slice Ar nr cr) (ex.map tokIns) rfl (hS.row.below (hm6 _)) ⟨w2.heap.size, 0, none⟩ 1 8 0 rfl (cell_new2 _ _ _ _ (by simp)) (by rw [List.length_map]; omega) (by simp; omega) ?_)
    intro v6 w6 hown hgr hat
    have hS6 := hS.app (hm6 _) hgr hown
    go_wp2_with fail
    go_ret
    exact (hS6.eq (HZ.out)).ret hb1 (by omega)
  · have us0w2 := hS.cell (by omega) xs0
    have uf0w2 := hS.cell (by omega) xf0
    have uf1w2 := hS.cell (by omega) xf1
    have uf2w2 := hS.cell (by omega) xf2
    have uf3w2 := hS.cell (by omega) xf3
    have HZ := Lib.hid (show [(12, idxI (sitesF ss) (j : Int))] = zs by rw [← HZ0.out, stmtC_3 HE2.out])
    go_wp2_with fail
    have hz5 := hS.sz
    refine (specL6Site _ 0 w.heap.size y y' v2 _ n c ss (j : Int) (h.keep (Nat.le_refl _) hh fun q _ hq => (hS.bl.block q (by omega)).trans (hb1.block q (by omega))) (by omega) hn).mono ?_
    rintro e w5 ⟨rfl, hb5⟩
    generalize idxI (sitesF ss) (j : Int) = q at HZ
    have hS5 := hS.below hb5
    have hz6 := hS5.sz
    go_wp2_with fail
    go_ret
    have hn := insRow_new w5 rfl hS5.sz 12 q
    exact ⟨_, rfl, (hn.mono (by omega)).eq HZ.out, hb1.trans ((hS5.bl.alloc hS5.sz _).mono (by omega))⟩
  · have us0w2 := hS.cell (by omega) xs0
    have HZ := Lib.hid (show ex.map tokIns ++ [(13, 0)] = zs by rw [← HZ0.out, stmtC_4 HE2.out HE1.out])
    have hm6 : ∀ o, Below w2.heap.size w2 (w2.alloc o) := fun o => Below.alloc (Below.refl _ _) (Nat.le_refl _) o
    have hz6 := hS.sz
    go_wp2_with (at_builtin; refine wpl_app1 _ rfl _ _ rfl B (Value.slice Ar nr cr) (ex.map tokIns) rfl (hS.row.below (hm6 _)) ⟨w2.heap.size, 0, none⟩ 1 13 0 rfl (cell_new2 _ _ _ _ (by simp)) (by rw [List.length_map]; omega) (by simp; omega) ?_)
    intro v6 w6 hown hgr hat
    have hS6 := hS.app (hm6 _) hgr hown
    go_wp2_with fail
    go_ret
    exact (hS6.eq (HZ.out)).ret hb1 (by omega)
  · have us0w2 := hS.cell (by omega) xs0
    have HZ := Lib.hid (show ex.map tokIns ++ [(15, 0), (16, 0)] = zs by rw [← HZ0.out, stmtC_5 HE2.out HE1.out])
    have hm6 : ∀ o, Below w2.heap.size w2 (w2.alloc o) := fun o => Below.alloc (Below.refl _ _) (Nat.le_refl _) o
    have hz6 := hS.sz
    go_wp2_with (at_builtin; refine wpl_app2 _ rfl _ _ rfl B (.slice Ar nr cr) (ex.map tokIns) rfl (hS.row.below (hm6 _)) ⟨w2.heap.size, 0, none⟩ 2 15 0 16 0 rfl (cell_new4 _ _ _ _ _ _ (by simp)) (by rw [List.length_map]; omega) (by simp; omega) ?_)
    intro v6 w6 hown hgr hat
    have hS6 := hS.app (hm6 _) hgr hown
    go_wp2_with fail
    go_ret
    exact (hS6.eq (HZ.out)).ret hb1 (by omega)
  · have us0w2 := hS.cell (by omega) xs0
    have HZ := Lib.hid (show [(14, 0)] = zs by rw [← HZ0.out, stmtC_6 HE2.out])
    have hz6 := hS.sz
    go_wp2_with fail
    go_ret
    have hn := insRow_new w2 rfl hS.sz 14 0
    exact ⟨_, rfl, (hn.mono (by omega)).eq HZ.out, hb1.trans ((hS.bl.alloc hS.sz _).mono (by omega))⟩
  · have us0w2 := hS.cell (by omega) xs0
    have us3w2 := hS.cell (by omega) xs3
    have us4w2 := hS.cell (by omega) xs4
    have uf0w2 := hS.cell (by omega) xf0
    have uf1w2 := hS.cell (by omega) xf1
    have uf2w2 := hS.cell (by omega) xf2
    have uf3w2 := hS.cell (by omega) xf3
    obtain ⟨i2, hi2⟩ : ∃ i : Nat, a + ex.length + 1 = i := ⟨_, rfl⟩
    obtain ⟨T, hT⟩ : ∃ T, T = codeB ss (f + 1) i2 s3 := ⟨_, rfl⟩
    obtain ⟨i4, hi4⟩ : ∃ i : Nat, i2 + T.length + 1 = i := ⟨_, rfl⟩
    obtain ⟨Q, hQ⟩ : ∃ Q, Q = codeB ss (f + 1) i4 s4 := ⟨_, rfl⟩
    obtain ⟨i5, hi5⟩ : ∃ i : Nat, i4 + Q.length = i := ⟨_, rfl⟩
    have hz : zs = ex.map tokIns ++ ([(11, (i4 : Int))] ++ (T ++ ([(10, (i5 : Int))] ++ Q))) := by rw [← HZ0.out, stmtC_7 HE2.out HE1.out HE4.out HE5.out hi2 (i4 := i4) (by rw [← hT]; omega) (i5 := i5) (by rw [← hQ]; omega), ← hT, ← hQ]
    have hzl : a + zs.length ≤ 1073741824 := HZL.out
    have hln : a + zs.length = i5 := by rw [hz]; simp only [List.length_append, List.length_cons, List.length_nil, List.length_map]; omega
    have b4 : i4 ≤ 1073741824 := by omega
    have b5 : i5 ≤ 1073741824 := by omega
    have bT : i2 + (codeB ss (f + 1) i2 s3).length ≤ 1073741824 := by rw [← hT]; omega
    have hTl : T.length ≤ 1073741824 := by omega
    have bQ : i4 + (codeB ss (f + 1) i4 s4).length ≤ 1073741824 := by rw [← hQ]; omega
    have hQl : Q.length ≤ 1073741824 := by omega
    have HQ := Lib.hid hQ
    have HI5 := Lib.hid hi5
    have HT0 := Lib.hid hT
    have HZ := Lib.hid hz
    have HI2 := Lib.hid hi2
    have HI4 := Lib.hid hi4
    clear hz hln hzl hi2 hT hi4 hQ hi5
    go_wp2_with fail
    have hzzw2 := hS.sz
    refine (IH.out _ 0 w.heap.size y y' v2 (some ⟨b, o, none⟩) n c ss A3 n3 c3' s3 (j + 1) i2 _ (h.keep (Nat.le_refl _) (Nat.le_refl _) (fun q _ hq => (hS.bl.block q (by omega)).trans (hb1.block q (by omega)))) (h3.keep (Nat.le_refl _) (Nat.le_refl _) (fun q _ hq => (hS.bl.block q (by omega)).trans (hb1.block q (by omega)))) (by omega) HA.out HLO.out HT.out (by omega) (by omega) (by have := HI2.out; have := HR.out; omega) bT).mono ?_
    rintro e w6 ⟨v6, rfl, hrT, hbT⟩
    rw [← HT0.out] at hrT
    obtain ⟨AT, nT, cT, rfl, hnT⟩ := hrT.form
    have HNT := Lib.hid hnT
    have hnlT : nT ≤ 1073741824 := by omega
    clear hnT
    have hS6 := hS.below hbT
    have howT : ∀ g, (Value.slice Ar nr cr).ownBlock = some g → g < w2.heap.size := fun g hg => (hS.row.lt g hg).2
    clear hbT
    have us0w6 := hS6.cell (by omega) xs0
    have us4w6 := hS6.cell (by omega) xs4
    have uf0w6 := hS6.cell (by omega) xf0
    have uf1w6 := hS6.cell (by omega) xf1
    have uf2w6 := hS6.cell (by omega) xf2
    have uf3w6 := hS6.cell (by omega) xf3
    have hm7 : ∀ o, Below w6.heap.size w6 (w6.alloc o) := fun o => Below.alloc (Below.refl _ _) (Nat.le_refl _) o
    have hz7 := hS6.sz
    go_wp2_with (at_builtin; refine wpl_app1 _ rfl _ _ rfl B (Value.slice Ar nr cr) (ex.map tokIns) rfl (hS6.row.below (hm7 _)) ⟨w6.heap.size, 0, none⟩ 1 11 _ rfl (cell_new2 _ _ _ _ (by simp)) (by rw [List.length_map]; omega) (by simp; omega) ?_)
    intro v7 w7 hown hgr hat
    replace hown := hown.eq (l' := ((ex.map tokIns) ++ [((11 : Int), ((i4 : Nat) : Int))])) (by have := HI2.out; have := HI4.out; have := HR.out; have := HNT.out; first | rfl | (simp; done) | (simp; omega))
    have hS7 := hS6.app (hm7 _) hgr hown
    replace hrT := row_stands (hrT.below (hm7 _)) hgr howT
    clear hgr hat hown
    have us0w7 := hS7.cell (by omega) xs0
    have us4w7 := hS7.cell (by omega) xs4
    have uf0w7 := hS7.cell (by omega) xf0
    have uf1w7 := hS7.cell (by omega) xf1
    have uf2w7 := hS7.cell (by omega) xf2
    have uf3w7 := hS7.cell (by omega) xf3
    have hz8 := hS7.sz
    go_wp2_with (at_builtin; refine wpl_appR _ rfl _ _ rfl B v7 ((ex.map tokIns) ++ [((11 : Int), ((i4 : Nat) : Int))]) rfl hS7.row _ _ T rfl hrT (by rw [List.length_append, List.length_map, List.length_singleton]; omega) (by omega) ?_)
    intro v8 w8 hown hgr hat
    replace hown := hown.eq (l' := ((ex.map tokIns) ++ [((11 : Int), ((i4 : Nat) : Int))]) ++ T) (by first | rfl | (simp; done))
    have hS8 := hS7.app (Below.refl _ _) hgr hown
    clear hrT howT hgr hat hown
    have us0w8 := hS8.cell (by omega) xs0
    have us4w8 := hS8.cell (by omega) xs4
    have uf0w8 := hS8.cell (by omega) xf0
    have uf1w8 := hS8.cell (by omega) xf1
    have uf2w8 := hS8.cell (by omega) xf2
    have uf3w8 := hS8.cell (by omega) xf3
    go_wp2_with fail
    have hzzw8 := hS8.sz
    refine (IH.out _ 0 w.heap.size y y' v2 (some ⟨b, o, none⟩) n c ss A4 n4 c4' s4 (j + 1) i4 _ (h.keep (Nat.le_refl _) (Nat.le_refl _) (fun q _ hq => (hS8.bl.block q (by omega)).trans (hb1.block q (by omega)))) (h4.keep (Nat.le_refl _) (Nat.le_refl _) (fun q _ hq => (hS8.bl.block q (by omega)).trans (hb1.block q (by omega)))) (by omega) HA.out HLO.out HEl.out (by omega) (by omega) (by have := HI2.out; have := HI4.out; have := HR.out; have := HNT.out; omega) bQ).mono ?_
    rintro e w9 ⟨v9, rfl, hrQ, hbQ⟩
    rw [← HQ.out] at hrQ
    obtain ⟨AQ, nQ, cQ, rfl, hnQ⟩ := hrQ.form
    have HNQ := Lib.hid hnQ
    have hnlQ : nQ ≤ 1073741824 := by omega
    clear hnQ
    have hS9 := hS8.below hbQ
    have howQ : ∀ g, v8.ownBlock = some g → g < w8.heap.size := fun g hg => (hS8.row.lt g hg).2
    clear hbQ
    have hm10 : ∀ o, Below w9.heap.size w9 (w9.alloc o) := fun o => Below.alloc (Below.refl _ _) (Nat.le_refl _) o
    have hz10 := hS9.sz
    go_wp2_with (at_builtin; refine wpl_app1 _ rfl _ _ rfl B v8 (((ex.map tokIns) ++ [((11 : Int), ((i4 : Nat) : Int))]) ++ T) rfl (hS9.row.below (hm10 _)) ⟨w9.heap.size, 0, none⟩ 1 10 _ rfl (cell_new2 _ _ _ _ (by simp)) (by rw [List.length_append, List.length_append, List.length_map, List.length_singleton]; omega) (by simp; omega) ?_)
    intro v10 w10 hown hgr hat
    replace hown := hown.eq (l' := ((((ex.map tokIns) ++ [((11 : Int), ((i4 : Nat) : Int))]) ++ T) ++ [((10 : Int), ((i5 : Nat) : Int))])) (by have := HI2.out; have := HI4.out; have := HR.out; have := HNT.out; have := HI5.out; have := HNQ.out; first | rfl | (simp; done) | (simp; omega))
    have hS10 := hS9.app (hm10 _) hgr hown
    replace hrQ := row_stands (hrQ.below (hm10 _)) hgr howQ
    clear hgr hat hown
    have hz11 := hS10.sz
    go_wp2_with (at_builtin; refine wpl_appR _ rfl _ _ rfl B v10 ((((ex.map tokIns) ++ [((11 : Int), ((i4 : Nat) : Int))]) ++ T) ++ [((10 : Int), ((i5 : Nat) : Int))]) rfl hS10.row _ _ Q rfl hrQ (by rw [List.length_append, List.length_append, List.length_append, List.length_map, List.length_singleton, List.length_singleton]; omega) (by omega) ?_)
    intro v11 w11 hown hgr hat
    replace hown := hown.eq (l' := ((((ex.map tokIns) ++ [((11 : Int), ((i4 : Nat) : Int))]) ++ T) ++ [((10 : Int), ((i5 : Nat) : Int))]) ++ Q) (by first | rfl | (simp; done))
    have hS11 := hS10.app (Below.refl _ _) hgr hown
    clear hrQ howQ hgr hat hown
    go_wp2_with fail
    go_ret
    exact (hS11.eq (by rw [HZ.out]; simp only [List.append_assoc])).ret hb1 (by omega)
  · have us0w2 := hS.cell (by omega) xs0
    have us3w2 := hS.cell (by omega) xs3
    have uf0w2 := hS.cell (by omega) xf0
    have uf1w2 := hS.cell (by omega) xf1
    have uf2w2 := hS.cell (by omega) xf2
    have uf3w2 := hS.cell (by omega) xf3
    obtain ⟨i2, hi2⟩ : ∃ i : Nat, a + ex.length + 1 = i := ⟨_, rfl⟩
    obtain ⟨T, hT⟩ : ∃ T, T = codeB ss (f + 1) i2 s3 := ⟨_, rfl⟩
    obtain ⟨i4, hi4⟩ : ∃ i : Nat, i2 + T.length + 1 = i := ⟨_, rfl⟩
    have hz : zs = ex.map tokIns ++ ([(11, (i4 : Int))] ++ (T ++ [(10, (a : Int))])) := by rw [← HZ0.out, stmtC_8 HE2.out HE1.out HE4.out hi2 (i4 := i4) (by rw [← hT]; omega), ← hT]
    have hzl : a + zs.length ≤ 1073741824 := HZL.out
    have hln : a + zs.length = i4 := by rw [hz]; simp only [List.length_append, List.length_cons, List.length_nil, List.length_map]; omega
    have b4 : i4 ≤ 1073741824 := by omega
    have bT : i2 + (codeB ss (f + 1) i2 s3).length ≤ 1073741824 := by rw [← hT]; omega
    have hTl : T.length ≤ 1073741824 := by omega
    have HT0 := Lib.hid hT
    have HZ := Lib.hid hz
    have HI2 := Lib.hid hi2
    have HI4 := Lib.hid hi4
    clear hz hln hzl hi2 hT hi4 
    go_wp2_with fail
    have hzzw2 := hS.sz
    refine (IH.out _ 0 w.heap.size y y' v2 (some ⟨b, o, none⟩) n c ss A3 n3 c3' s3 (j + 1) i2 _ (h.keep (Nat.le_refl _) (Nat.le_refl _) (fun q _ hq => (hS.bl.block q (by omega)).trans (hb1.block q (by omega)))) (h3.keep (Nat.le_refl _) (Nat.le_refl _) (fun q _ hq => (hS.bl.block q (by omega)).trans (hb1.block q (by omega)))) (by omega) HA.out HLO.out HT.out (by omega) (by omega) (by have := HI2.out; have := HR.out; omega) bT).mono ?_
    rintro e w6 ⟨v6, rfl, hrT, hbT⟩
    rw [← HT0.out] at hrT
    obtain ⟨AT, nT, cT, rfl, hnT⟩ := hrT.form
    have HNT := Lib.hid hnT
    have hnlT : nT ≤ 1073741824 := by omega
    clear hnT
    have hS6 := hS.below hbT
    have howT : ∀ g, (Value.slice Ar nr cr).ownBlock = some g → g < w2.heap.size := fun g hg => (hS.row.lt g hg).2
    clear hbT
    have us0w6 := hS6.cell (by omega) xs0
    have hm7 : ∀ o, Below w6.heap.size w6 (w6.alloc o) := fun o => Below.alloc (Below.refl _ _) (Nat.le_refl _) o
    have hz7 := hS6.sz
    go_wp2_with (at_builtin; refine wpl_app1 _ rfl _ _ rfl B (Value.slice Ar nr cr) (ex.map tokIns) rfl (hS6.row.below (hm7 _)) ⟨w6.heap.size, 0, none⟩ 1 11 _ rfl (cell_new2 _ _ _ _ (by simp)) (by rw [List.length_map]; omega) (by simp; omega) ?_)
    intro v7 w7 hown hgr hat
    replace hown := hown.eq (l' := ((ex.map tokIns) ++ [((11 : Int), ((i4 : Nat) : Int))])) (by have := HI2.out; have := HI4.out; have := HR.out; have := HNT.out; first | rfl | (simp; done) | (simp; omega))
    have hS7 := hS6.app (hm7 _) hgr hown
    replace hrT := row_stands (hrT.below (hm7 _)) hgr howT
    clear hgr hat hown
    have us0w7 := hS7.cell (by omega) xs0
    have hz8 := hS7.sz
    go_wp2_with (at_builtin; refine wpl_appR _ rfl _ _ rfl B v7 ((ex.map tokIns) ++ [((11 : Int), ((i4 : Nat) : Int))]) rfl hS7.row _ _ T rfl hrT (by rw [List.length_append, List.length_map, List.length_singleton]; omega) (by omega) ?_)
    intro v8 w8 hown hgr hat
    replace hown := hown.eq (l' := ((ex.map tokIns) ++ [((11 : Int), ((i4 : Nat) : Int))]) ++ T) (by first | rfl | (simp; done))
    have hS8 := hS7.app (Below.refl _ _) hgr hown
    clear hrT howT hgr hat hown
    have us0w8 := hS8.cell (by omega) xs0
    have hm9 : ∀ o, Below w8.heap.size w8 (w8.alloc o) := fun o => Below.alloc (Below.refl _ _) (Nat.le_refl _) o
    have hz9 := hS8.sz
    go_wp2_with (at_builtin; refine wpl_app1 _ rfl _ _ rfl B v8 (((ex.map tokIns) ++ [((11 : Int), ((i4 : Nat) : Int))]) ++ T) rfl (hS8.row.below (hm9 _)) ⟨w8.heap.size, 0, none⟩ 1 10 _ rfl (cell_new2 _ _ _ _ (by simp)) (by rw [List.length_append, List.length_append, List.length_map, List.length_singleton]; omega) (by simp; omega) ?_)
    intro v9 w9 hown hgr hat
    replace hown := hown.eq (l' := ((((ex.map tokIns) ++ [((11 : Int), ((i4 : Nat) : Int))]) ++ T) ++ [((10 : Int), (a : Int))])) (by first | rfl | (simp; done) | (simp; omega))
    have hS9 := hS8.app (hm9 _) hgr hown
    go_wp2_with fail
    go_ret
    exact (hS9.eq (by rw [HZ.out]; simp only [List.append_assoc])).ret hb1 (by omega)
  · have us0w2 := hS.cell (by omega) xs0
    have HZ := Lib.hid (show ex.map tokIns ++ [(9, 0)] = zs by rw [← HZ0.out, stmtC_9 HE2.out HE1.out])
    have hm6 : ∀ o, Below w2.heap.size w2 (w2.alloc o) := fun o => Below.alloc (Below.refl _ _) (Nat.le_refl _) o
    have hz6 := hS.sz
    go_wp2_with (at_builtin; refine wpl_app1 _ rfl _ _ rfl B (Value.slice Ar nr cr) (ex.map tokIns) rfl (hS.row.below (hm6 _)) ⟨w2.heap.size, 0, none⟩ 1 9 0 rfl (cell_new2 _ _ _ _ (by simp)) (by rw [List.length_map]; omega) (by simp; omega) ?_)
    intro v6 w6 hown hgr hat
    have hS6 := hS.app (hm6 _) hgr hown
    go_wp2_with fail
    go_ret
    exact (hS6.eq (HZ.out)).ret hb1 (by omega)
set_option maxHeartbeats 2000000 in
theorem specBlockC (f : Nat) : SpcBlk f := by
  induction f using Nat.strongRecOn with
  | ind f ih =>
    intro w lo hi y y' v2 A n c ss Ab nb cb bl lb a z h hb hh ha hlo hok hf hn hz0 hl
    subst hz0
    have IH := Lib.hid ih
    replace h := h.more (Nat.zero_le lo) hh
    replace hb := hb.more (Nat.zero_le lo) hh
    have e1 := Lib.hid h.lenEq
    have e2 := hb.lenEq
    have b2 := hb.lenLe
    have HA := Lib.hid ha
    have HLO := Lib.hid hlo
    have HO := Lib.hid hok
    have HL := Lib.hid hl
    have ha30 : a ≤ 1073741824 := by omega
    clear ih ha hlo hok hl
    go_enter Try.func176, Try.ntmps176
    go_wp2_with fail
    obtain ⟨w1, hw1⟩ : ∃ w1, w1 = w.alloc (.cells #[.int .i64 y, .int .i64 y', v2, .slice A n c] 139) := ⟨_, rfl⟩
    have xf0 : w1.cell? ⟨w.heap.size, 0, none⟩ = some (.int .i64 y) := by rw [hw1]; simp [go_sem]
    have xf1 : w1.cell? ⟨w.heap.size, 1, none⟩ = some (.int .i64 y') := by rw [hw1]; simp [go_sem]
    have xf2 : w1.cell? ⟨w.heap.size, 2, none⟩ = some v2 := by rw [hw1]; simp [go_sem]
    have xf3 : w1.cell? ⟨w.heap.size, 3, none⟩ = some (.slice A n c) := by rw [hw1]; simp [go_sem]
    have hb1 : Below w.heap.size w w1 := by rw [hw1]; (repeat (first | with_reducible exact Below.refl _ _ | with_reducible assumption | with_reducible refine below_alloc ?_ _ | ((with_reducible refine Below.setCell ?_ ?_ _); rotate_left; (· first | exact Nat.le_refl _ | (simp; done) | (simp; omega))) | with_reducible refine below_drewN ?_ _ | with_reducible refine Below.drew ?_ | with_reducible refine below_then ?_ (by with_reducible assumption)))
    have hB : w.heap.size < w1.heap.size := World.block_lt_of_cell? w1 _ xf0
    rw [← hw1]
    clear hw1
    obtain ⟨B, hB0⟩ : ∃ B, B = w1.heap.size := ⟨_, rfl⟩
    have hBw : w.heap.size < B := by omega
    have hBl : B ≤ w1.heap.size := by omega
    clear hB0
    go_loopw [7, 12] (fun v i wr => ∃ k : Nat, k ≤ nb ∧ i = .int .i64 k ∧ SpcRun w1 B wr v (codeB ss (f + 1) a (bl.take k))) (fun _ i _ => nb - (intOf i).toNat)
    case atStart => exact ⟨0, Nat.zero_le _, rfl, by rw [List.take_zero, codeB_nil]; exact ⟨InsRow.nil_ _ _, Below.refl _ _, hBl⟩⟩
    case round =>
      rename_i v0 _
      obtain ⟨k, hk, rfl, hR⟩ := hrel
      have HK : Hid (∀ q, 0 ≤ q → q < w.heap.size → wr.heap[q]? = w.heap[q]?) := Lib.hid (fun q _ hq => (hR.bl.block q (by omega)).trans (hb1.block q (by omega)))
      by_cases hlt : k < nb
      · obtain ⟨b, o, rfl, _, _, hc1, _⟩ := (hb.keep (Nat.le_refl _) (Nat.le_refl _) HK.out).int_at hlt
        have hx := HO.out (bl[k]'(by omega)) (List.getElem_mem _)
        have hs0 := codeB_succ ss f a bl k (by omega)
        have hle := codeB_take_le ss (f + 1) a bl (k + 1)
        generalize bl[k]'(by omega) = x at hc1 hx hs0
        obtain ⟨x1', x2'⟩ := hx
        obtain ⟨j, rfl⟩ := Int.eq_ofNat_of_zero_le (show 0 ≤ x by omega)
        obtain ⟨f', rfl⟩ : ∃ f', f = f' + 1 := ⟨f - 1, by have := e1.out; omega⟩
        have hj : j < n := by have := e1.out; omega
        have hl := HL.out
        rw [hs0, List.length_append] at hle
        obtain ⟨ys, hys⟩ : ∃ ys, ys = codeB ss (f' + 1 + 1) a (bl.take k) := ⟨_, rfl⟩
        rw [← hys] at hs0 hle hR
        have hyl : ys.length ≤ 1073741824 := by omega
        have HS := Lib.hid hs0
        have hbd : a + ys.length + (stmtC ss (codeB ss (f' + 1)) (j : Int) (a + ys.length)).length ≤ 1073741824 := by omega
        have HBD := Lib.hid hbd
        obtain ⟨Ay, ny, cy, rfl, hny⟩ := hR.row.form
        have HNY := Lib.hid hny
        have hnyl : ny ≤ 1073741824 := by omega
        have uf0 := hR.cell (by omega) xf0
        have uf1 := hR.cell (by omega) xf1
        have uf2 := hR.cell (by omega) xf2
        have uf3 := hR.cell (by omega) xf3
        have hsz := hR.sz
        have hbd1 : (stmtC ss (codeB ss (f' + 1)) (j : Int) (a + ys.length)).length ≤ 1073741824 := by omega
        clear hs0 hys hle hbd hl hny
        go_wp2_with fail
        refine (specStmtC f' (IH.out f' (by omega)) _ 0 w.heap.size y y' v2 A n c ss j (a + ys.length) _ (h.keep (Nat.le_refl _) (Nat.le_refl _) HK.out) (by omega) HA.out HLO.out hj (by omega) (by have := e1.out; omega) (by have := HNY.out; omega) HBD.out).mono ?_
        rintro e w2 ⟨vT, rfl, hrT, hbT⟩
        generalize stmtC ss (codeB ss (f' + 1)) (j : Int) (a + ys.length) = T at hrT HS hbd1
        have hR2 := hR.below hbT
        have hz2 := hR2.sz
        clear hR hbT uf0 uf1 uf2 uf3 HBD
        go_wp2_with (at_builtin; refine wpl_appR _ rfl _ _ rfl B (.slice Ay ny cy) ys rfl hR2.row _ _ T rfl hrT (by omega) (by omega) ?_)
        intro v3 w3 hown hgr hat
        have hR3 := hR2.app (Below.refl _ _) hgr (hown.eq HS.out.symm)
        clear hown hgr hat hR2 hrT
        go_wp2_with fail
        go_roundw
        case rel => exact ⟨k + 1, by omega, by go_num, hR3⟩
        case measure => simp [intOf]; omega
      · rw [List.take_of_length_le (by omega)] at hR
        go_wp2_with fail
        go_ret
        exact hR.ret hb1 (by omega)
end Go.Proofs.Ytgagbbhnifkclaa
