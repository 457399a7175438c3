/- A function's code: the reference's walk. -/
import Derived.Test.YtgagbbhnifkclaaLowM
import Derived.Test.YtgagbbhnifkclaaLowC
import Derived.Deep.RegionLaw
set_option linter.unusedVariables false
set_option linter.unusedSimpArgs false
set_option maxRecDepth 100000
namespace Go.Proofs.Ytgagbbhnifkclaa
open Go.RowKit
theorem grown_below {w wm w' : World} {B base size n : Nat} {e : TypeId} {v : Value} {xs : List Value} (hm : Below B w wm) (ho : wm.ownsRow base e size v n xs) (hg : wm.grownBy w' v.ownBlock) (hB : B ≤ base) (hBm : B ≤ wm.heap.size) : Below B w w' := hm.grown hg hBm (fun g e => by have := (ho.lt g e).1; omega)
theorem put_frC {a wr wm w' : World} {C j : Nat} {v u : Value} (hf : Fr [C] a wr) (hm : Below wr.heap.size wr wm) (hg : wm.grownBy w' v.ownBlock) (hv : ∀ g, v.ownBlock = some g → a.heap.size ≤ g) : Fr [C] a (w'.setCell ⟨C, j, none⟩ u) :=
  ⟨(show (w'.setCell ⟨C, j, none⟩ u).os = w'.os from rfl).trans (hg.os.trans (hm.os.trans hf.os)), (show (w'.setCell ⟨C, j, none⟩ u).tape = w'.tape from rfl).trans (hg.tape.trans (hm.tape.trans hf.tape)), (show (w'.setCell ⟨C, j, none⟩ u).output = w'.output from rfl).trans (hg.output.trans (hm.output.trans hf.output)),
    by have h1 := hg.size; have h2 := hm.size; have h3 := hf.size; simp; omega, fun k hk hn => by
    have hf3 := hf.size
    have hm3 := hm.size
    rw [Below.heap_setCell _ _ _ _ (show k ≠ C by simpa using hn), hg.block k (by omega) (fun e => by have := hv k e.symm; omega), hm.block k (by omega), hf.block k hk hn]⟩
set_option maxHeartbeats 8000000 in
theorem specL6Func (w : World) (lo hi : Nat) (Ap : Option Addr) (np cp : Nat) (fs : List Func) (jf : Nat) (h : Sl FuncR w lo hi Ap np cp fs) (hh : hi ≤ w.heap.size) (hjf : jf < np) (hf0 : LowF (fs[jf]'(by have := h.lenEq; omega))) :
    Calls Try.prog 108 #[.agg #[.slice Ap np cp], .int .i64 jf] w (RetCodeS (lowF (fs[jf]'(by have := h.lenEq; omega))) w) := by
  replace h := h.more (Nat.zero_le lo) hh
  obtain ⟨bp, op, x0, x1, Ab, nb, cb, body, A, n, c, ss, rfl, _, _, hl0, i0, i1, hb, hs, d0, d1, d2, d3⟩ := Func_at h hjf
  rw [hl0] at hf0 ⊢
  have e1 := hs.lenEq
  have HF := Lib.hid hf0
  have hlong := hf0.long
  simp only at hlong
  have hcl := codeB_long hf0
  simp only at hcl
  have HE1 := Lib.hid e1
  have hn : n ≤ 16 := by omega
  have gA : (0 : Int) ≤ (jf : Int) := by omega
  have gB : (jf : Int) < (np : Int) := by omega
  clear e1 hf0 hl0 h
  go_enter Try.func108, Try.ntmps108
  go_wp2_with fail
  obtain ⟨C, hC⟩ : ∃ C, C = w.heap.size + 1 + 1 + 1 := ⟨_, rfl⟩
  obtain ⟨Fb, hFb⟩ : ∃ Fb, Fb = w.heap.size + 1 + 1 := ⟨_, rfl⟩
  obtain ⟨R, hR⟩ : ∃ R, R = w.heap.size + 1 := ⟨_, rfl⟩
  obtain ⟨w0, hw0⟩ : ∃ w0, w0 = ((w.alloc (.cells #[.slice (some ⟨bp, op, none⟩) np cp] 70)).alloc (.cells #[.int .i64 0, .int .i64 0, .slice none 0 0, .slice none 0 0, .slice none 0 0] 44)).alloc (.cells #[.int .i64 x0, .int .i64 x1, .slice Ab nb cb, .slice A n c] 139) := ⟨_, rfl⟩
  have hz0 : w0.heap.size = C := by rw [hw0, hC]; simp
  obtain ⟨w1, hw1⟩ : ∃ w1, w1 = w0.alloc (.cells #[.int .i64 x0, .int .i64 x1, .slice none 0 0, .slice none 0 0, .slice none 0 0] 44) := ⟨_, rfl⟩
  have hcs1 : CSt w1 C x0 x1 (.slice none 0 0) [] (.slice none 0 0) [] (.slice none 0 0) [] := by rw [hw1]; exact CSt.new w0 hz0.symm x0 x1
  have g01 : Below C w0 w1 := by rw [hw1, ← hz0]; exact Below.alloc (Below.refl _ _) (Nat.le_refl _) _
  have xf0 : w0.cell? ⟨Fb, 0, none⟩ = some (.int .i64 x0) := by rw [hw0, hFb]; simp [go_sem]
  have xf1 : w0.cell? ⟨Fb, 1, none⟩ = some (.int .i64 x1) := by rw [hw0, hFb]; simp [go_sem]
  have xf2 : w0.cell? ⟨Fb, 2, none⟩ = some (.slice Ab nb cb) := by rw [hw0, hFb]; simp [go_sem]
  have xf3 : w0.cell? ⟨Fb, 3, none⟩ = some (.slice A n c) := by rw [hw0, hFb]; simp [go_sem]
  have xr0 : w0.cell? ⟨R, 0, none⟩ = some (.int .i64 0) := by rw [hw0, hR]; simp [go_sem]
  have xr1 : w0.cell? ⟨R, 1, none⟩ = some (.int .i64 0) := by rw [hw0, hR]; simp [go_sem]
  have xr2 : w0.cell? ⟨R, 2, none⟩ = some (.slice none 0 0) := by rw [hw0, hR]; simp [go_sem]
  have xr3 : w0.cell? ⟨R, 3, none⟩ = some (.slice none 0 0) := by rw [hw0, hR]; simp [go_sem]
  have xr4 : w0.cell? ⟨R, 4, none⟩ = some (.slice none 0 0) := by rw [hw0, hR]; simp [go_sem]
  have xrf : ∀ j, w0.frozen? ⟨R, j, none⟩ = false := fun j => by rw [hw0, hR]; simp [go_sem]
  have hb0 : Below w.heap.size w w0 := by rw [hw0]; (repeat (first | with_reducible exact Below.refl _ _ | with_reducible assumption | with_reducible refine below_alloc ?_ _ | ((with_reducible refine Below.setCell ?_ ?_ _); rotate_left; (· first | exact Nat.le_refl _ | (simp; done) | (simp; omega))) | with_reducible refine below_drewN ?_ _ | with_reducible refine Below.drew ?_ | with_reducible refine below_then ?_ (by with_reducible assumption)))
  have hFC : Fb < C := by omega
  have hRC : R < C := by omega
  have hwR : w.heap.size < R := by omega
  have hRF : ¬ R = Fb := by omega
  replace xf0 : w1.cell? ⟨Fb, 0, none⟩ = _ := (g01.cell (p := ⟨Fb, 0, none⟩) hFC).trans xf0
  replace xf1 : w1.cell? ⟨Fb, 1, none⟩ = _ := (g01.cell (p := ⟨Fb, 1, none⟩) hFC).trans xf1
  replace xf2 : w1.cell? ⟨Fb, 2, none⟩ = _ := (g01.cell (p := ⟨Fb, 2, none⟩) hFC).trans xf2
  replace xf3 : w1.cell? ⟨Fb, 3, none⟩ = _ := (g01.cell (p := ⟨Fb, 3, none⟩) hFC).trans xf3
  replace xr0 : w1.cell? ⟨R, 0, none⟩ = _ := (g01.cell (p := ⟨R, 0, none⟩) hRC).trans xr0
  replace xr1 : w1.cell? ⟨R, 1, none⟩ = _ := (g01.cell (p := ⟨R, 1, none⟩) hRC).trans xr1
  replace xr2 : w1.cell? ⟨R, 2, none⟩ = _ := (g01.cell (p := ⟨R, 2, none⟩) hRC).trans xr2
  replace xr3 : w1.cell? ⟨R, 3, none⟩ = _ := (g01.cell (p := ⟨R, 3, none⟩) hRC).trans xr3
  replace xr4 : w1.cell? ⟨R, 4, none⟩ = _ := (g01.cell (p := ⟨R, 4, none⟩) hRC).trans xr4
  have hRf : ∀ j, w1.frozen? ⟨R, j, none⟩ = false := fun j => (g01.frozen (p := ⟨R, j, none⟩) hRC).trans (xrf j)
  have hb1 : Below w.heap.size w w1 := hb0.trans (g01.mono (by omega))
  have hC1 := hcs1.lt
  try rw [← hC]
  try rw [← hFb]
  try rw [← hR]
  try rw [← hw0]
  try rw [← hw1]
  clear hw1 hw0 xrf g01 hb0 hz0 hC hFb hR d0 d1 d2 d3
  refine (specL3Sites _ 0 w.heap.size x0 x1 _ A n c ss (hs.below hb1 (by omega)) (by omega) (by omega)).mono ?_
  rintro e w2 ⟨F2, As, ns, cs, rfl, os, fs2, hx⟩
  have hS2 := os.toSl (lo := w1.heap.size) (hi := w2.heap.size) (fun k hk => ⟨fs2 k hk, os.lt k hk⟩)
  have hsl : ns ≤ 4 := by have := HF.out.sites; have := hS2.lenEq; simp only at *; omega
  have HSE := Lib.hid hS2.lenEq
  have hx2 := hx.size
  have hcs2 := hcs1.below hx
  clear os fs2 hcs1
  go_wp2_with fail
  go_loopw [25] (fun i wr => ∃ q : Nat, q ≤ ns ∧ i = .int .i64 q ∧ ∃ vs, CSt wr C x0 x1 vs (((sitesF ss).take q).map (nOf ss)) (.slice none 0 0) [] (.slice none 0 0) [] ∧ Fr [C] w2 wr ∧ ∀ g, vs.ownBlock = some g → w2.heap.size ≤ g) (fun i _ => ns - (intOf i).toNat)
  case atStart => exact ⟨0, Nat.zero_le _, rfl, _, hcs2, Fr.refl _ _, fun g hg => by cases hg⟩
  case round =>
    obtain ⟨q, hq, rfl, vs, hB, hfr, hvs⟩ := hrel
    have hwr := hfr.size
    have zf3 : wr.cell? ⟨Fb, 3, none⟩ = some (.slice A n c) := cell_fr hfr (by simp; omega) (below_cell hx xf3)
    have HK : Hid (∀ k, 0 ≤ k → k < w.heap.size → wr.heap[k]? = w.heap[k]?) := Lib.hid (fun k _ hk => (hfr.block k (by omega) (by simp; omega)).trans ((hx.block k (by omega)).trans (hb1.block k hk)))
    by_cases hlt2 : q < ns
    · obtain ⟨b, o, rfl, _, _, hc1, _⟩ := (hS2.fr hfr (Nat.le_refl _) (fun k hk => by simp at hk; omega)).int_at hlt2
      have hlen := HSE.out
      have hxx := sitesF_mem ss _ (List.getElem_mem (by omega : q < (sitesF ss).length))
      have hs0 := fun y => take_map_succ (f := nOf ss) (y := y) (l := sitesF ss) (k := q) (by omega)
      generalize (sitesF ss)[q]'(by omega) = x at hc1 hxx hs0
      obtain ⟨hx1, hx2'⟩ := hxx
      obtain ⟨j, rfl⟩ := Int.eq_ofNat_of_zero_le hx1
      have hj : j < n := by have := HE1.out; omega
      have HS := Lib.hid (hs0 _ rfl)
      clear hs0 hlen
      obtain ⟨ls, hls⟩ : ∃ x, x = ((sitesF ss).take q).map (nOf ss) := ⟨_, rfl⟩
      have hlsl : ls.length ≤ 4 := by rw [hls, List.length_map, List.length_take]; omega
      rw [← hls] at hB HS
      clear hls
      obtain ⟨b2, o2, y0, y1, B2, m2, d2, ex, B3, m3, d3, s3, B4, m4, d4, s4, rfl, _, _, hl0, j0, j1, _, _, _, t0, t1, t2, t3, t4⟩ := Stmt_at (hs.keep (Nat.le_refl _) (Nat.le_refl _) HK.out) hj
      have hN : nOf ss (j : Int) = y1 := by
        have := (exOf_at (ss := ss) (k := j) (by have := HE1.out; omega)).2.2.1
        rw [hl0] at this; exact this
      rw [hN] at HS
      have kk2 := hB.k2
      have kf2 := hB.kf 2
      have hC8 := hB.lt
      have zlt : Fb < wr.heap.size := World.block_lt_of_cell? wr _ zf3
      have zlt2 : b2 < wr.heap.size := World.block_lt_of_cell? wr _ t1
      have gA : (0 : Int) ≤ (j : Int) := by omega
      have gB : (j : Int) < (n : Int) := by omega
      clear hl0 hN t0 t2 t3 t4
      go_wp2_with fail
      go_region_law (first | ((refine step_iapp1 _ (by rfl) _ _ (by rfl) (C + 1) vs ls (by rfl) (hB.r2.below (show Below wr.heap.size wr _ by (repeat (first | with_reducible exact Below.refl _ _ | with_reducible assumption | with_reducible refine below_alloc ?_ _ | ((with_reducible refine Below.setCell ?_ ?_ _); rotate_left; (· first | exact Nat.le_refl _ | (simp; done) | (simp; omega))) | with_reducible refine below_drewN ?_ _ | with_reducible refine Below.drew ?_ | with_reducible refine below_then ?_ (by with_reducible assumption))))) wr.heap.size 1 y1 (by rfl) (by simp [go_sem]) (by omega) (by first | (simp; done) | (simp; omega)) ?_); intro u w9 hown hgr hat; obtain ⟨A9, n9, c9, rfl, hn9⟩ := hown.form; clear hn9; have mm := hB.mid2 (show Below wr.heap.size wr _ by (repeat (first | with_reducible exact Below.refl _ _ | with_reducible assumption | with_reducible refine below_alloc ?_ _ | ((with_reducible refine Below.setCell ?_ ?_ _); rotate_left; (· first | exact Nat.le_refl _ | (simp; done) | (simp; omega))) | with_reducible refine below_drewN ?_ _ | with_reducible refine Below.drew ?_ | with_reducible refine below_then ?_ (by with_reducible assumption)))) hgr; have mm2 := mm.2.2.1; have mf2 := mm.2.2.2.2.2 2) | fail)
      all_goals
        have hB9 := hB.put2 (show Below wr.heap.size wr _ by (repeat (first | with_reducible exact Below.refl _ _ | with_reducible assumption | with_reducible refine below_alloc ?_ _ | ((with_reducible refine Below.setCell ?_ ?_ _); rotate_left; (· first | exact Nat.le_refl _ | (simp; done) | (simp; omega))) | with_reducible refine below_drewN ?_ _ | with_reducible refine Below.drew ?_ | with_reducible refine below_then ?_ (by with_reducible assumption)))) hgr (hown.eq HS.out.symm) hat
        have hfr9 := put_frC (j := 2) (u := (.slice A9 n9 c9)) hfr (show Below wr.heap.size wr _ by (repeat (first | with_reducible exact Below.refl _ _ | with_reducible assumption | with_reducible refine below_alloc ?_ _ | ((with_reducible refine Below.setCell ?_ ?_ _); rotate_left; (· first | exact Nat.le_refl _ | (simp; done) | (simp; omega))) | with_reducible refine below_drewN ?_ _ | with_reducible refine Below.drew ?_ | with_reducible refine below_then ?_ (by with_reducible assumption)))) hgr hvs
        have hvs9 : ∀ g, (Value.slice A9 n9 c9).ownBlock = some g → w2.heap.size ≤ g := by
          intro g hg
          rcases hat with hat | hat
          · rw [hat] at hg; exact hvs g hg
          · rw [hat] at hg; injection hg with hg; rw [← hg]; first | omega | (simp; omega)
        clear hown hgr hat mm mm2 mf2
        go_wp2_with fail
        go_roundw
        case rel => exact ⟨q + 1, by omega, by go_num, _, hB9, hfr9, hvs9⟩
        case measure => simp [intOf]; omega
    · rw [List.take_of_length_le (by have := HSE.out; omega)] at hB
      have zf0 : wr.cell? ⟨Fb, 0, none⟩ = some (.int .i64 x0) := cell_fr hfr (by simp; omega) (below_cell hx xf0)
      have zf1 : wr.cell? ⟨Fb, 1, none⟩ = some (.int .i64 x1) := cell_fr hfr (by simp; omega) (below_cell hx xf1)
      have zf2 : wr.cell? ⟨Fb, 2, none⟩ = some (.slice Ab nb cb) := cell_fr hfr (by simp; omega) (below_cell hx xf2)
      go_wp2_with fail
      obtain ⟨As', ns', cs', rfl, hns⟩ := hB.r2.form
      obtain rfl : ns = ns' := by have := HSE.out; rw [List.length_map] at hns; omega
      clear hns
      have hbl : Below C w1 wr := ⟨hfr.os.trans hx.os, hfr.tape.trans hx.tape, hfr.output.trans hx.output, Nat.le_trans hx2 hwr, fun k hk => (hfr.block k (by omega) (by simp; omega)).trans (hx.block k (by omega))⟩
      have hCr := hB.lt
      have hv2 : ∀ g, (Value.slice As' ns cs').ownBlock = some g → g < wr.heap.size := fun g hg => (hB.r2.lt g hg).2
      have hcok := Lib.hid (codeB_ok (ss := ss) HF.out.ok (by omega) (ss.length + 1) 0 body (by omega))
      refine (specBlockC ss.length _ 0 w.heap.size x0 x1 _ A n c ss Ab nb cb body 0 0 0 (hs.keep (Nat.le_refl _) (Nat.le_refl _) HK.out) (hb.keep (Nat.le_refl _) (Nat.le_refl _) HK.out) (by omega) HF.out.all HF.out.ok HF.out.body (by omega) (by omega) rfl (by omega)).mono ?_
      rintro e w6 ⟨v6, rfl, hrv, hb6⟩
      obtain ⟨cbs, hcbs⟩ : ∃ x, x = codeB ss (ss.length + 1) 0 body := ⟨_, rfl⟩
      rw [← hcbs] at hcl hcok hrv
      have HCB := Lib.hid hcbs
      clear hcbs
      have hcs6 := hB.below hb6
      have hbl6 := hbl.trans (hb6.mono (by omega))
      have hw6 := hb6.size
      have hm6 : ∀ o, Below w6.heap.size w6 (w6.alloc o) := fun o => Below.alloc (Below.refl _ _) (Nat.le_refl _) o
      clear hb6 zf0 zf1 zf2 zf3
      go_wp2_with (at_builtin; refine wpl_app1 _ rfl _ _ rfl wr.heap.size v6 cbs rfl (hrv.below (hm6 _)) ⟨w6.heap.size, 0, none⟩ 1 16 0 rfl (cell_new2 _ _ _ _ (by simp)) (by omega) (by first | (simp; done) | (simp; omega)) ?_)
      intro v7 w7 hown hgr hat
      obtain ⟨bs, hbs⟩ : ∃ x, x = cbs ++ [((16 : Int), (0 : Int))] := ⟨_, rfl⟩
      rw [← hbs] at hown
      have hPl : bs.length = cbs.length + 1 := by rw [hbs]; simp
      obtain ⟨A7, P, c7, rfl, hP⟩ := hown.form
      have hP1 : P ≤ 241 := by omega
      have HBS := Lib.hid hbs
      have HP := Lib.hid hP.symm
      have h67 := hgr.size
      simp at h67
      have hcs7 : CSt w7 C x0 x1 (.slice As' ns cs') ((sitesF ss).map (nOf ss)) (.slice none 0 0) [] (.slice none 0 0) [] := (hcs6.below (hm6 _)).frame (fun k hk hlt ho => hgr.block k hlt (fun e => by
        have := (hrv.lt k e.symm).1
        rcases ho with rfl | ho | ho | ho
        · omega
        · have := hv2 k ho; omega
        · cases ho
        · cases ho))
      have hbl7 : Below C w1 w7 := (hbl6.trans ((hm6 _).mono (by omega))).grown hgr (by simp; omega) (fun g hg => by have := (hrv.lt g hg).1; omega)
      have hd7 : ∀ g, (Value.slice As' ns cs').ownBlock = some g → ¬ (Value.slice A7 P c7).ownBlock = some g := fun g e e2 => by have := hv2 g e; have := (hown.lt g e2).1; omega
      have hcs8 := hcs7.new3 (hown.mono (by omega)) hd7 (fun g _ e => by cases e)
      have hbl8 : Below C w1 (w7.setCell ⟨C, 3, none⟩ (.slice A7 P c7)) := hbl7.setCell (p := ⟨C, 3, none⟩) (Nat.le_refl _) _
      have hz8 : (w7.setCell ⟨C, 3, none⟩ (.slice A7 P c7)).heap.size = w7.heap.size := by simp
      have hlit := rowRow_new (w7.setCell ⟨C, 3, none⟩ (.slice A7 P c7)) (base := C + 1) hz8 (by omega) 0 P P
      have hcs9 := (hcs8.below (Below.alloc (Below.refl _ _) (Nat.le_refl _) _)).new4 hlit (fun g e e2 => by have := hv2 g e; simp [Value.ownBlock] at e2; omega) (fun g e e2 => by have := (hown.lt g e).2; simp [Value.ownBlock] at e2; omega)
      rw [World.setCell_alloc_past _ _ _ _ (by rw [hz8]; omega)] at hcs9
      have hbl9 : Below C w1 (((w7.setCell ⟨C, 3, none⟩ (.slice A7 P c7)).setCell ⟨C, 4, none⟩ (.slice (some ⟨w7.heap.size, 0, none⟩) 1 1)).alloc (.cells #[.int .i64 0, .int .i64 P, .int .i64 P] 172)) := (hbl8.setCell (p := ⟨C, 4, none⟩) (Nat.le_refl _) _).alloc (by simp; omega) _
      have k3 := hcs7.k3
      have k4 := hcs7.k4
      have k2 := hcs7.k2
      have kf3 := hcs7.kf 3
      have kf4 := hcs7.kf 4
      have hC7 := hcs7.lt
      clear hcs8 hcs7 hlit hbl8 hbl7 hcs6 hbl6 hrv hgr hat hbs hPl hP hcs2
      go_wp2_with fail
      obtain ⟨w10, hw10⟩ : ∃ x, x = ((w7.setCell ⟨C, 3, none⟩ (.slice A7 P c7)).setCell ⟨C, 4, none⟩ (.slice (some ⟨w7.heap.size, 0, none⟩) 1 1)).alloc (.cells #[.int .i64 0, .int .i64 P, .int .i64 P] 172) := ⟨_, rfl⟩
      rw [← hw10] at hcs9 hbl9 ⊢
      clear hw10 k2 k3 k4 kf3 kf4 hown h67 hz8 hB hbl hCr hC7
      go_loopw [10] (fun i wr => ∃ k : Nat, k ≤ ns ∧ i = .int .i64 ((ns : Int) - 1 - (k : Int)) ∧ ∃ v vr, CSt wr C x0 x1 (.slice As' ns cs') ((sitesF ss).map (nOf ss)) v (bs ++ padK ns k) vr ((0, (P : Int), (P : Int)) :: padRK P k) ∧ Below C w1 wr) (fun i _ => (intOf i + 1).toNat)
      case atStart => exact ⟨0, Nat.zero_le _, by first | go_num | (simp; done) | exact int_eq (by omega), _, _, by simpa [padK, padRK] using hcs9, hbl9⟩
      case round =>
        obtain ⟨k, hk, rfl, v, vr, hB, hbl⟩ := hrel
        have hm : ∀ o, Below wr.heap.size wr (wr.alloc o) := fun o => Below.alloc (Below.refl _ _) (Nat.le_refl _) o
        have hCw := hB.lt
        obtain ⟨xs, hxs⟩ : ∃ x, x = bs ++ padK ns k := ⟨_, rfl⟩
        obtain ⟨rs, hrs⟩ : ∃ x, x = (0, (P : Int), (P : Int)) :: padRK P k := ⟨_, rfl⟩
        rw [← hxs, ← hrs] at hB
        have hxl : xs.length = P + k := by rw [hxs, List.length_append, padK_len, HP.out]
        have hrl : rs.length ≤ 10 := by rw [hrs, List.length_cons, padRK_len]; omega
        obtain ⟨Av, a, cv, rfl, hav⟩ := hB.r3.form
        have ha : a = P + k := by omega
        have ha3 : a ≤ 300 := by omega
        have hxl3 : xs.length ≤ 300 := by omega
        have HXS := Lib.hid hxs
        have HRS := Lib.hid hrs
        have HA := Lib.hid ha
        have HXL := Lib.hid hxl
        have kk3 := hB.k3
        clear hxl hxs hrs ha hav
        by_cases hlt : k < ns
        · have hge : (0 : Int) ≤ (ns : Int) - 1 - (k : Int) := by omega
          go_wp2_with (at_builtin; refine wpl_app1 _ rfl _ _ rfl (C + 1) (.slice Av a cv) xs rfl (hB.r3.below (hm _)) ⟨wr.heap.size, 0, none⟩ 1 17 _ rfl (cell_new2 _ _ _ _ (by simp)) (by omega) (by first | (simp; done) | (simp; omega)) ?_)
          intro u w11 hown hgr hat
          obtain ⟨A9, n9, c9, rfl, hn9⟩ := hown.form
          clear hn9
          replace hown := hown.eq (l' := bs ++ padK ns (k + 1)) (by rw [padK_succ, HXS.out, List.append_assoc, show ((ns - 1 - k : Nat) : Int) = (ns : Int) - 1 - (k : Int) by omega])
          obtain ⟨_, _, _, m3, m4, mf⟩ := hB.mid3 (hm _) hgr
          have mf3 := mf 3
          have hB2 := hB.put3 (hm _) hgr hown (hat.imp id (fun e => by simpa using e))
          have hbl2 := hbl.trans (put3_fr (u := .slice A9 n9 c9) hB.r3 (Nat.le_refl _) (by omega) (hm _) hgr)
          have hC2 := hB2.lt
          have hC3 : C < w11.heap.size := by simpa using hC2
          have hm2 : ∀ o, Below (w11.setCell ⟨C, 3, none⟩ (.slice A9 n9 c9)).heap.size (w11.setCell ⟨C, 3, none⟩ (.slice A9 n9 c9)) ((w11.setCell ⟨C, 3, none⟩ (.slice A9 n9 c9)).alloc o) := fun o => Below.alloc (Below.refl _ _) (Nat.le_refl _) o
          clear hown hgr hat hB hbl mf kk3
          go_wp2_with (at_builtin; refine wpl_rapp1 _ rfl _ _ rfl (C + 1) vr rs rfl (hB2.r4.below (hm2 _)) ⟨w11.heap.size, 0, none⟩ 1 _ _ _ rfl (cell_new3 _ _ _ _ _ (by simp)) (by omega) (by first | (simp; done) | (simp; omega)) ?_)
          intro u2 w12 hown hgr hat
          obtain ⟨A8, n8, c8, rfl, hn8⟩ := hown.form
          clear hn8
          replace hown := hown.eq (l' := (0, (P : Int), (P : Int)) :: padRK P (k + 1)) (by rw [padRK_succ, HRS.out]; simp [HA.out])
          obtain ⟨_, _, _, _, n4, nf⟩ := hB2.mid4 (hm2 _) hgr
          have nf4 := nf 4
          have hB3 := hB2.put4 (hm2 _) hgr hown (hat.imp id (fun e => by simpa using e))
          have hbl3 := hbl2.trans (put4_fr (u := .slice A8 n8 c8) hB2.r4 (Nat.le_refl _) (by omega) (hm2 _) hgr)
          clear hown hgr hat hB2 hbl2 nf m3 m4 mf3 hC2
          go_wp2_with fail
          go_roundw
          case rel => exact ⟨k + 1, by omega, by first | go_num | exact int_eq (by omega), _, _, hB3, hbl3⟩
          case measure => simp [intOf]; omega
        · obtain rfl : ns = k := by omega
          have hge : ¬ (0 : Int) ≤ (ns : Int) - 1 - (ns : Int) := by omega
          obtain ⟨Ar, nr, cr, rfl, hnr⟩ := hB.r4.form
          clear hnr
          go_wp2_with (at_builtin; refine wpl_app1 _ rfl _ _ rfl (C + 1) (.slice Av a cv) xs rfl (hB.r3.below (hm _)) ⟨wr.heap.size, 0, none⟩ 1 18 _ rfl (cell_new2 _ _ _ _ (by simp)) (by omega) (by first | (simp; done) | (simp; omega)) ?_)
          intro u w11 hown hgr hat
          obtain ⟨A9, n9, c9, rfl, hn9⟩ := hown.form
          clear hn9
          obtain ⟨m0, m1, m2, m3, m4, mf⟩ := hB.mid3 (hm _) hgr
          have mf3 := mf 3
          have hB2 := hB.put3 (hm _) hgr hown (hat.imp id (fun e => by simpa using e))
          have hbl1 : Below C w1 w11 := (hbl.trans ((hm _).mono (by omega))).grown hgr (by simp; omega) (fun g hg => by have := (hB.r3.lt g hg).1; omega)
          have y0 : w11.cell? ⟨R, 0, none⟩ = _ := (hbl1.cell (p := ⟨R, 0, none⟩) hRC).trans xr0
          have y1 : w11.cell? ⟨R, 1, none⟩ = _ := (hbl1.cell (p := ⟨R, 1, none⟩) hRC).trans xr1
          have y2 : w11.cell? ⟨R, 2, none⟩ = _ := (hbl1.cell (p := ⟨R, 2, none⟩) hRC).trans xr2
          have y3 : w11.cell? ⟨R, 3, none⟩ = _ := (hbl1.cell (p := ⟨R, 3, none⟩) hRC).trans xr3
          have y4 : w11.cell? ⟨R, 4, none⟩ = _ := (hbl1.cell (p := ⟨R, 4, none⟩) hRC).trans xr4
          have yf : ∀ j, w11.frozen? ⟨R, j, none⟩ = false := fun j => (hbl1.frozen (p := ⟨R, j, none⟩) hRC).trans (hRf j)
          have hRC' : ¬ R = C := by omega
          clear hown hgr hat hB hbl mf kk3
          go_wp2_with fail
          refine bodyPost_ret (v := .agg #[.int .i64 x0, .int .i64 x1, .slice As' ns cs', .slice A9 n9 c9, .slice Ar nr cr]) (by simp [results, Try.results108, go_sem, y0, y1, y2, y3, y4, hRC']) rfl ?_
          have hlow : lowF (x0, x1, body, ss) = (x0, x1, (sitesF ss).map (nOf ss), xs ++ [(18, 0)], rs) := by
            unfold lowF
            dsimp only
            rw [← HCB.out, ← HBS.out, HP.out, HSE.out, padK_all, padRK_all, HXS.out, HRS.out, List.append_assoc]
          rw [hlow]
          have hk : ∀ k, ¬ k = R → ((((((w11.setCell ⟨C, 3, none⟩ (.slice A9 n9 c9)).setCell ⟨R, 0, none⟩ (.int .i64 x0)).setCell ⟨R, 1, none⟩ (.int .i64 x1)).setCell ⟨R, 2, none⟩ (.slice As' ns cs')).setCell ⟨R, 3, none⟩ (.slice A9 n9 c9)).setCell ⟨R, 4, none⟩ (.slice Ar nr cr)).heap[k]? = (w11.setCell ⟨C, 3, none⟩ (.slice A9 n9 c9)).heap[k]? := by
            intro k g2
            rw [Below.heap_setCell _ _ _ _ g2, Below.heap_setCell _ _ _ _ g2, Below.heap_setCell _ _ _ _ g2, Below.heap_setCell _ _ _ _ g2, Below.heap_setCell _ _ _ _ g2]
          have hbw : Below w.heap.size w w11 := hb1.trans (hbl1.mono (by omega))
          refine ⟨_, _, _, _, _, _, _, _, _, rfl, ((hB2.r2.keep fun k e => hk k (by have := (hB2.r2.lt k e).1; omega)).own ?_).toSl (fun k hk => by have := hB2.r2.lt k (by simpa using hk); simp only [World.setCell] at this ⊢; simp at this ⊢; omega), ((hB2.r3.keep fun k e => hk k (by have := (hB2.r3.lt k e).1; omega)).own ?_).toSl (fun k hk => by have := hB2.r3.lt k (by simpa using hk); simp only [World.setCell] at this ⊢; simp at this ⊢; omega), ((hB2.r4.keep fun k e => hk k (by have := (hB2.r4.lt k e).1; omega)).own ?_).toSl (fun k hk => by have := hB2.r4.lt k (by simpa using hk); simp only [World.setCell] at this ⊢; simp at this ⊢; omega), ?_⟩
          · intro x hx
            obtain ⟨z, _, rfl⟩ := List.mem_map.1 hx
            have := nOf_ok (ss := ss) HF.out.ok z
            unfold I64; omega
          · intro x hx
            rw [HXS.out, HBS.out] at hx
            simp only [List.mem_append, List.mem_singleton] at hx
            rcases hx with ((hx | rfl) | hx) | rfl
            · exact hcok.out x hx
            · exact ⟨by unfold I64; simp, by unfold I64; simp⟩
            · exact padK_ok (by omega) x hx
            · exact ⟨by unfold I64; simp, by unfold I64; simp⟩
          · intro x hx
            rw [HRS.out] at hx
            rcases List.mem_cons.1 hx with rfl | hx
            · refine ⟨?_, ?_, ?_⟩ <;> (simp only [I64]; omega)
            · exact padRK_ok (by omega) x hx
          · (repeat (first | with_reducible exact Below.refl _ _ | with_reducible assumption | with_reducible refine below_alloc ?_ _ | ((with_reducible refine Below.setCell ?_ ?_ _); rotate_left; (· first | exact Nat.le_refl _ | (simp; done) | (simp; omega))) | with_reducible refine below_drewN ?_ _ | with_reducible refine Below.drew ?_ | with_reducible refine below_then ?_ (by with_reducible assumption)))
end Go.Proofs.Ytgagbbhnifkclaa
