/- Whether a function is good: the reference's walk. -/
import Derived.Test.YtgagbbhnifkclaaShapeP
import Derived.Test.YtgagbbhnifkclaaGoodP
set_option linter.unusedVariables false
set_option linter.unusedSimpArgs false
set_option maxRecDepth 100000
namespace Go.Proofs.Ytgagbbhnifkclaa
open Go.RowKit
def kindOf (ss : List Stmt) (n : Int) : Int := (ss[n.toNat]?.map fun s => s.1).getD 0
def whileB (ss : List Stmt) (s : Stmt) : Bool := !(s.1 == 8) || (ordA ss s.2.2.2.1).all fun n => !(kindOf ss n == 3)
def stOkS (fv : Int) (ps : List Int) (ss : List Stmt) (s : Stmt) : Bool := stmtS fv ps s.1 s.2.1 s.2.2.1 ps.length s.2.2.1.length s.2.2.2.1.length s.2.2.2.2.length && whileB ss s
def funcS (ps : List Int) (x0 x1 : Int) (body : List Int) (ss : List Stmt) : Bool :=
  inB x0 0 2 && inB x1 x0 6 && decide (ss.length ≤ 16) && blocksB body ss && decide ((sitesF ss).length ≤ 4) && idB (ordA ss body) && ss.all (stOkS x1 ps ss)
theorem kind_at {w : World} {lo hi : Nat} {A : Option Addr} {n c k : Nat} {l : List Stmt} (h : Sl StmtR w lo hi A n c l) (hk : k < n) : ∃ b off, A = some ⟨b, off, none⟩ ∧ lo ≤ b ∧ b < hi ∧ w.cell? ⟨b, off + k * 5, none⟩ = some (.int .i64 (kindOf l (k : Int))) := by
  have e1 := h.lenEq
  obtain ⟨b, o, x0, x1, A2, n2, c2, s2, A3, n3, c3, s3, A4, n4, c4, s4, rfl, h1, h2, hl0, _, _, _, _, _, d0, _⟩ := Stmt_at h hk
  refine ⟨b, o, rfl, h1, h2, ?_⟩
  unfold kindOf; rw [show ((k : Int)).toNat = k from rfl, List.getElem?_eq_getElem (by omega), hl0]; exact d0
set_option maxHeartbeats 8000000 in
theorem specL3Func (w : World) (lo hi lo' hi' : Nat) (x0 x1 : Int) (A2 : Option Addr) (n2 c2 : Nat) (body : List Int) (A3 : Option Addr) (n3 c3 : Nat) (ss : List Stmt) (A : Option Addr) (n' c' : Nat) (ps : List Int)
    (hB : Sl intR w lo hi A2 n2 c2 body) (h : Sl StmtR w lo hi A3 n3 c3 ss) (hP : Sl intR w lo' hi' A n' c' ps) (hh : hi ≤ w.heap.size) (hh' : hi' ≤ w.heap.size) (hn : mszLStmt ss ≤ 1048576) (hn' : n' ≤ 100) :
    Calls Try.prog 167 #[.agg #[.int .i64 x0, .int .i64 x1, .slice A2 n2 c2, .slice A3 n3 c3], .slice A n' c'] w (RetB (funcS ps x0 x1 body ss) w) := by
  have e1 := h.lenEq
  have e2 := hP.lenEq
  have hml := mszLStmt_len ss
  by_cases g1 : inB x0 0 2 = true
  rotate_left
  · have g1 : inB x0 0 2 = false := by simpa using g1
    go_enter Try.func167, Try.ntmps167
    go_wp2_with (go_at_call 100; ((with_reducible refine (specL1In _ _ _ _).mono ?_); rintro e w2 ⟨rfl, rfl⟩))
    go_ret
    exact RetB.mk (by unfold funcS; simp [g1]) (by (repeat (first | with_reducible exact Below.refl _ _ | with_reducible assumption | with_reducible refine below_alloc ?_ _ | ((with_reducible refine Below.setCell ?_ ?_ _); rotate_left; (· first | exact Nat.le_refl _ | (simp; done) | (simp; omega))) | with_reducible refine below_drewN ?_ _ | with_reducible refine Below.drew ?_ | with_reducible refine below_then ?_ (by with_reducible assumption))))
  by_cases g2 : inB x1 x0 6 = true
  rotate_left
  · have g2 : inB x1 x0 6 = false := by simpa using g2
    go_enter Try.func167, Try.ntmps167
    go_wp2_with (go_at_call 100; ((with_reducible refine (specL1In _ _ _ _).mono ?_); rintro e w2 ⟨rfl, rfl⟩))
    go_ret
    exact RetB.mk (by unfold funcS; simp [g1, g2]) (by (repeat (first | with_reducible exact Below.refl _ _ | with_reducible assumption | with_reducible refine below_alloc ?_ _ | ((with_reducible refine Below.setCell ?_ ?_ _); rotate_left; (· first | exact Nat.le_refl _ | (simp; done) | (simp; omega))) | with_reducible refine below_drewN ?_ _ | with_reducible refine Below.drew ?_ | with_reducible refine below_then ?_ (by with_reducible assumption))))
  by_cases g3 : n3 ≤ 16
  rotate_left
  · have g3d : decide ((n3 : Int) > 16) = true := by first | omega | (simp; done) | (simp; omega)
    have hv := Lib.hid (show funcS ps x0 x1 body ss = false by unfold funcS; simp [g1, g2, show ¬ ss.length ≤ 16 by omega])
    go_enter Try.func167, Try.ntmps167
    go_wp2_with (go_at_call 100; ((with_reducible refine (specL1In _ _ _ _).mono ?_); rintro e w2 ⟨rfl, rfl⟩))
    go_ret
    exact RetB.mk hv.out.symm (by (repeat (first | with_reducible exact Below.refl _ _ | with_reducible assumption | with_reducible refine below_alloc ?_ _ | ((with_reducible refine Below.setCell ?_ ?_ _); rotate_left; (· first | exact Nat.le_refl _ | (simp; done) | (simp; omega))) | with_reducible refine below_drewN ?_ _ | with_reducible refine Below.drew ?_ | with_reducible refine below_then ?_ (by with_reducible assumption))))
  have g3d : decide ((n3 : Int) > 16) = false := by first | omega | (simp; done) | (simp; omega)
  by_cases g4 : blocksB body ss = true
  rotate_left
  · have g4 : blocksB body ss = false := by simpa using g4
    have hv := Lib.hid (show funcS ps x0 x1 body ss = false by unfold funcS; simp [g4])
    go_enter Try.func167, Try.ntmps167
    go_wp2_with (first
      | (go_at_call 100; ((with_reducible refine (specL1In _ _ _ _).mono ?_); rintro e w2 ⟨rfl, rfl⟩))
      | (go_at_call 209; ((with_reducible refine (specL3Blocks _ lo hi _ _ _ _ _ body _ _ _ ss (hB.below (show Below w.heap.size w _ by (repeat (first | with_reducible exact Below.refl _ _ | with_reducible assumption | with_reducible refine below_alloc ?_ _ | ((with_reducible refine Below.setCell ?_ ?_ _); rotate_left; (· first | exact Nat.le_refl _ | (simp; done) | (simp; omega))) | with_reducible refine below_drewN ?_ _ | with_reducible refine Below.drew ?_ | with_reducible refine below_then ?_ (by with_reducible assumption)))) hh) (h.below (show Below w.heap.size w _ by (repeat (first | with_reducible exact Below.refl _ _ | with_reducible assumption | with_reducible refine below_alloc ?_ _ | ((with_reducible refine Below.setCell ?_ ?_ _); rotate_left; (· first | exact Nat.le_refl _ | (simp; done) | (simp; omega))) | with_reducible refine below_drewN ?_ _ | with_reducible refine Below.drew ?_ | with_reducible refine below_then ?_ (by with_reducible assumption)))) hh) (by first | omega | (simp; omega)) (by omega)).mono ?_); rintro e w3 ⟨rfl, hb3⟩)))
    go_ret
    exact RetB.mk hv.out.symm (by (repeat (first | with_reducible exact Below.refl _ _ | with_reducible assumption | with_reducible refine below_alloc ?_ _ | ((with_reducible refine Below.setCell ?_ ?_ _); rotate_left; (· first | exact Nat.le_refl _ | (simp; done) | (simp; omega))) | with_reducible refine below_drewN ?_ _ | with_reducible refine Below.drew ?_ | with_reducible refine below_then ?_ (by with_reducible assumption))))
  by_cases g5 : (sitesF ss).length ≤ 4
  rotate_left
  · have hv := Lib.hid (show funcS ps x0 x1 body ss = false by unfold funcS; simp [show ¬ (sitesF ss).length ≤ 4 from g5])
    go_enter Try.func167, Try.ntmps167
    go_wp2_with (go_at_call 100; ((with_reducible refine (specL1In _ _ _ _).mono ?_); rintro e w2 ⟨rfl, rfl⟩))
    refine (specL3Blocks _ lo hi _ _ _ _ _ body _ _ _ ss (hB.below (show Below w.heap.size w _ by (repeat (first | with_reducible exact Below.refl _ _ | with_reducible assumption | with_reducible refine below_alloc ?_ _ | ((with_reducible refine Below.setCell ?_ ?_ _); rotate_left; (· first | exact Nat.le_refl _ | (simp; done) | (simp; omega))) | with_reducible refine below_drewN ?_ _ | with_reducible refine Below.drew ?_ | with_reducible refine below_then ?_ (by with_reducible assumption)))) hh) (h.below (show Below w.heap.size w _ by (repeat (first | with_reducible exact Below.refl _ _ | with_reducible assumption | with_reducible refine below_alloc ?_ _ | ((with_reducible refine Below.setCell ?_ ?_ _); rotate_left; (· first | exact Nat.le_refl _ | (simp; done) | (simp; omega))) | with_reducible refine below_drewN ?_ _ | with_reducible refine Below.drew ?_ | with_reducible refine below_then ?_ (by with_reducible assumption)))) hh) (by first | omega | (simp; omega)) (by omega)).mono ?_
    rintro e w3 ⟨rfl, hb3⟩
    obtain ⟨hcE, hfE⟩ := bcell hb3
    have f0 : w3.cell? ⟨w.heap.size, 0, none⟩ = some (.int .i64 x0) := by simp [hcE, go_sem]
    have f1 : w3.cell? ⟨w.heap.size, 1, none⟩ = some (.int .i64 x1) := by simp [hcE, go_sem]
    have f2 : w3.cell? ⟨w.heap.size, 2, none⟩ = some (.slice A2 n2 c2) := by simp [hcE, go_sem]
    have f3 : w3.cell? ⟨w.heap.size, 3, none⟩ = some (.slice A3 n3 c3) := by simp [hcE, go_sem]
    clear hcE hfE
    have hx3 : Below w.heap.size w w3 := by (repeat (first | with_reducible exact Below.refl _ _ | with_reducible assumption | with_reducible refine below_alloc ?_ _ | ((with_reducible refine Below.setCell ?_ ?_ _); rotate_left; (· first | exact Nat.le_refl _ | (simp; done) | (simp; omega))) | with_reducible refine below_drewN ?_ _ | with_reducible refine Below.drew ?_ | with_reducible refine below_then ?_ (by with_reducible assumption)))
    have hz3 := hx3.size
    go_wp2_with fail
    refine (specL3Sites _ lo hi _ _ _ _ _ _ ss (h.below hx3 hh) (by omega) (by omega)).mono ?_
    rintro e w4 ⟨F4, A4, n4, c4, rfl, ho4, hF4, hb4⟩
    have l4 := ho4.sl.lenEq
    have hd4 : decide ((n4 : Int) > 4) = true := by first | omega | (simp; done) | (simp; omega)
    clear l4 g5
    go_wp2_with fail
    go_ret
    exact RetB.mk hv.out.symm (below_then hx3 hb4)
  obtain ⟨oB, oA, oL⟩ := blocksB_len g4 (by omega)
  have hF : funcS ps x0 x1 body ss = (idB (ordA ss body) && ss.all (stOkS x1 ps ss)) := by unfold funcS; rw [g1, g2, decide_eq_true (by omega : ss.length ≤ 16), g4, decide_eq_true g5]; rfl
  rw [hF]
  clear hF
  have g2' := inB_iff.1 g2
  have g1' := inB_iff.1 g1
  have OA := Lib.hid oA
  have OB := Lib.hid oB
  have OL := Lib.hid oL
  have LO := ord_len oA oB (by omega) (ss.length + 1)
  clear oA oB oL
  have hd3 : decide ((n3 : Int) > 16) = false := by first | omega | (simp; done) | (simp; omega)
  go_enter Try.func167, Try.ntmps167
  go_wp2_with (go_at_call 100; ((with_reducible refine (specL1In _ _ _ _).mono ?_); rintro e w2 ⟨rfl, rfl⟩))
  refine (specL3Blocks _ lo hi _ _ _ _ _ body _ _ _ ss (hB.below (show Below w.heap.size w _ by (repeat (first | with_reducible exact Below.refl _ _ | with_reducible assumption | with_reducible refine below_alloc ?_ _ | ((with_reducible refine Below.setCell ?_ ?_ _); rotate_left; (· first | exact Nat.le_refl _ | (simp; done) | (simp; omega))) | with_reducible refine below_drewN ?_ _ | with_reducible refine Below.drew ?_ | with_reducible refine below_then ?_ (by with_reducible assumption)))) hh) (h.below (show Below w.heap.size w _ by (repeat (first | with_reducible exact Below.refl _ _ | with_reducible assumption | with_reducible refine below_alloc ?_ _ | ((with_reducible refine Below.setCell ?_ ?_ _); rotate_left; (· first | exact Nat.le_refl _ | (simp; done) | (simp; omega))) | with_reducible refine below_drewN ?_ _ | with_reducible refine Below.drew ?_ | with_reducible refine below_then ?_ (by with_reducible assumption)))) hh) (by first | omega | (simp; omega)) (by omega)).mono ?_
  rintro e w3 ⟨rfl, hb3⟩
  have hB3 : Below (w.heap.size + 1) (w.alloc (.cells #[.int .i64 x0, .int .i64 x1, .slice A2 n2 c2, .slice A3 n3 c3] 139)) w3 := by have := hb3; simp at this; exact this
  have hx3 : Below w.heap.size w w3 := by (repeat (first | with_reducible exact Below.refl _ _ | with_reducible assumption | with_reducible refine below_alloc ?_ _ | ((with_reducible refine Below.setCell ?_ ?_ _); rotate_left; (· first | exact Nat.le_refl _ | (simp; done) | (simp; omega))) | with_reducible refine below_drewN ?_ _ | with_reducible refine Below.drew ?_ | with_reducible refine below_then ?_ (by with_reducible assumption)))
  have hz3 := hx3.size
  have f30 : w3.cell? ⟨w.heap.size, 0, none⟩ = some (.int .i64 x0) := (hB3.cell (p := ⟨w.heap.size, 0, none⟩) (by simp)).trans (by simp [go_sem])
  have f31 : w3.cell? ⟨w.heap.size, 1, none⟩ = some (.int .i64 x1) := (hB3.cell (p := ⟨w.heap.size, 1, none⟩) (by simp)).trans (by simp [go_sem])
  have f32 : w3.cell? ⟨w.heap.size, 2, none⟩ = some (.slice A2 n2 c2) := (hB3.cell (p := ⟨w.heap.size, 2, none⟩) (by simp)).trans (by simp [go_sem])
  have f33 : w3.cell? ⟨w.heap.size, 3, none⟩ = some (.slice A3 n3 c3) := (hB3.cell (p := ⟨w.heap.size, 3, none⟩) (by simp)).trans (by simp [go_sem])
  go_wp2_with fail
  refine (specL3Sites _ lo hi _ _ _ _ _ _ ss (h.below hx3 hh) (by omega) (by omega)).mono ?_
  rintro e w4 ⟨F4, A4, n4, c4, rfl, ho4, hF4, hb4⟩
  have l4 := ho4.sl.lenEq
  have hd4 : decide ((n4 : Int) > 4) = false := by first | omega | (simp; done) | (simp; omega)
  have hz34 := hb3.size
  simp at hz34
  have hB4 := hB3.trans (hb4.mono (show w.heap.size + 1 ≤ w3.heap.size by omega))
  have hx4 : Below w.heap.size w w4 := below_then hx3 hb4
  have hz4 := hx4.size
  have hz45 := hb4.size
  clear l4 g5 ho4 hF4 hb3 hb4
  have f40 : w4.cell? ⟨w.heap.size, 0, none⟩ = some (.int .i64 x0) := (hB4.cell (p := ⟨w.heap.size, 0, none⟩) (by simp)).trans (by simp [go_sem])
  have f41 : w4.cell? ⟨w.heap.size, 1, none⟩ = some (.int .i64 x1) := (hB4.cell (p := ⟨w.heap.size, 1, none⟩) (by simp)).trans (by simp [go_sem])
  have f42 : w4.cell? ⟨w.heap.size, 2, none⟩ = some (.slice A2 n2 c2) := (hB4.cell (p := ⟨w.heap.size, 2, none⟩) (by simp)).trans (by simp [go_sem])
  have f43 : w4.cell? ⟨w.heap.size, 3, none⟩ = some (.slice A3 n3 c3) := (hB4.cell (p := ⟨w.heap.size, 3, none⟩) (by simp)).trans (by simp [go_sem])
  go_wp2_with fail
  refine (specL3Order ss.length _ lo hi lo hi _ _ _ _ _ _ ss _ _ _ body 0 (h.below hx4 hh) (hB.below hx4 hh) (by omega) (by omega) OA.out OB.out (by omega) (by omega) (by omega)).mono ?_
  rintro e w5 ⟨F5, A5, n5, c5, rfl, ho5, hF5, hb5⟩
  have hB5 := hB4.trans (hb5.mono (show w.heap.size + 1 ≤ w4.heap.size by omega))
  have hx5 : Below w.heap.size w w5 := below_then hx4 hb5
  have hO5 := ho5.sl
  have l5 := hO5.lenEq
  have l5' := hO5.lenLe
  clear hb5 ho5 hF5
  have f50 : w5.cell? ⟨w.heap.size, 0, none⟩ = some (.int .i64 x0) := (hB5.cell (p := ⟨w.heap.size, 0, none⟩) (by simp)).trans (by simp [go_sem])
  have f51 : w5.cell? ⟨w.heap.size, 1, none⟩ = some (.int .i64 x1) := (hB5.cell (p := ⟨w.heap.size, 1, none⟩) (by simp)).trans (by simp [go_sem])
  have f52 : w5.cell? ⟨w.heap.size, 2, none⟩ = some (.slice A2 n2 c2) := (hB5.cell (p := ⟨w.heap.size, 2, none⟩) (by simp)).trans (by simp [go_sem])
  have f53 : w5.cell? ⟨w.heap.size, 3, none⟩ = some (.slice A3 n3 c3) := (hB5.cell (p := ⟨w.heap.size, 3, none⟩) (by simp)).trans (by simp [go_sem])
  generalize hord : ordF ss (ss.length + 1) body = ord at hO5 l5
  have hordH := Lib.hid (show ordA ss body = ord from hord)
  clear hord LO
  have hz5 := hx5.size
  go_wp2_with fail
  go_loopw [45] (fun i wr => ∃ k : Nat, k ≤ n5 ∧ i = .int .i64 k ∧ ((List.range k).all fun k => ord.getD k 0 == (k : Int)) = true ∧ Below w5.heap.size w5 wr) (fun i _ => n5 - (intOf i).toNat)
  case atStart => exact ⟨0, Nat.zero_le _, rfl, rfl, Below.refl _ _⟩
  case round =>
    obtain ⟨k, hk, rfl, ht0, hb⟩ := hrel
    have ht := Lib.hid ht0
    clear ht0
    by_cases hlt : k < n5
    · obtain ⟨b, o, rfl, _, _, hc1, _⟩ := (hO5.below hb (Nat.le_refl _)).int_at hlt
      have hxe : ord.getD k 0 = ord[k]'(by omega) := by simp only [List.getD]; rw [List.getElem?_eq_getElem (by omega), Option.getD_some]
      generalize hx0 : ord[k]'(by omega) = x at hc1 hxe
      by_cases hxk : x = (k : Int)
      · have hok := Lib.hid (range_all_succ (p := fun k => ord.getD k 0 == (k : Int)) ht.out (by rw [hxe, hxk]; simp))
        subst hxk
        clear hxe hx0
        go_wp2_with fail
        go_roundw
        case rel => exact ⟨k + 1, by omega, by go_num, hok.out, hb⟩
        case measure => simp [intOf]; omega
      · have hno := Lib.hid (show idB ord = false from range_all_false (p := fun k => ord.getD k 0 == (k : Int)) (n := ord.length) (k := k) (by omega) (by rw [hxe]; simpa using hxk))
        have hd : (x != (k : Int)) = true := by simpa using hxk
        clear hxe hx0 hxk
        go_wp2_with fail
        go_ret
        exact RetB.mk (by rw [hordH.out, hno.out]; rfl) (below_then hx5 hb)
    · have hid := Lib.hid (show idB ord = true by unfold idB; rw [show ord.length = k by omega]; exact ht.out)
      obtain ⟨wm, rfl⟩ : ∃ wm, wm = wr := ⟨_, rfl⟩
      have hxm : Below w.heap.size w wm := below_then hx5 hb
      have hBm := hB5.trans (hb.mono (show w.heap.size + 1 ≤ w5.heap.size by have := hB5.size; simp at this; omega))
      have hzm := hxm.size
      have hzm2 := hBm.size
      simp at hzm2
      rw [hordH.out, hid.out, Bool.true_and]
      clear hO5 l5 l5' hb hB5 hx5 ht hk
      have fm0 : wm.cell? ⟨w.heap.size, 0, none⟩ = some (.int .i64 x0) := (hBm.cell (p := ⟨w.heap.size, 0, none⟩) (by simp)).trans (by simp [go_sem])
      have fm1 : wm.cell? ⟨w.heap.size, 1, none⟩ = some (.int .i64 x1) := (hBm.cell (p := ⟨w.heap.size, 1, none⟩) (by simp)).trans (by simp [go_sem])
      have fm2 : wm.cell? ⟨w.heap.size, 2, none⟩ = some (.slice A2 n2 c2) := (hBm.cell (p := ⟨w.heap.size, 2, none⟩) (by simp)).trans (by simp [go_sem])
      have fm3 : wm.cell? ⟨w.heap.size, 3, none⟩ = some (.slice A3 n3 c3) := (hBm.cell (p := ⟨w.heap.size, 3, none⟩) (by simp)).trans (by simp [go_sem])
      go_wp2_with fail
      clear hlt
      go_loopw [57] (fun i wr => ∃ k : Nat, k ≤ n3 ∧ i = .int .i64 k ∧ ((ss.take k).all (stOkS x1 ps ss)) = true ∧ Below wm.heap.size wm wr) (fun i _ => n3 - (intOf i).toNat)
      case atStart => exact ⟨0, Nat.zero_le _, rfl, rfl, Below.refl _ _⟩
      case round =>
        obtain ⟨k, hk, rfl, ht0, hb⟩ := hrel
        have ht := Lib.hid ht0
        clear ht0
        have hxr := below_then hxm hb
        have hzr := hb.size
        by_cases hlt : k < n3
        · obtain ⟨bb, oo, y0, y1, A2', n2', c2', s2, A3', n3', c3', s3, A4', n4', c4', s4, rfl, hb1', hb2', hl0, i0, i1, h2, h3, h4, d0, d1, d2, d3, d4⟩ := Stmt_at (h.below hxr hh) hlt
          have q2 := h2.lenEq
          have q3 := h3.lenEq
          have q4 := h4.lenEq
          have hm := mszStmt_at (l := ss) (k := k) (by omega)
          rw [hl0] at hm
          simp only [mszStmt] at hm
          have hST0 : stOkS x1 ps ss (ss[k]'(by omega)) = (stmtS x1 ps y0 y1 s2 n' n2' n3' n4' && whileB ss (ss[k]'(by omega))) := by unfold stOkS; rw [hl0]; simp only [q2, q3, q4, e2]
          have hW0 : whileB ss (ss[k]'(by omega)) = (!(y0 == 8) || (ordA ss s3).all fun n => !(kindOf ss n == 3)) := by unfold whileB; rw [hl0]
          have hok := Lib.hid (fun (hp : stOkS x1 ps ss (ss[k]'(by omega)) = true) => all_take_succ (p := stOkS x1 ps ss) ht.out (by omega) hp)
          have hno := Lib.hid (fun (hp : stOkS x1 ps ss (ss[k]'(by omega)) = false) => all_false (p := stOkS x1 ps ss) (l := ss) (k := k) (by omega) hp)
          have hT3 : thenOf ss (k : Int) = s3 := by unfold thenOf; rw [show ((k : Int)).toNat = k from rfl, List.getElem?_eq_getElem (by omega), hl0]; rfl
          have hb3 : okB ss (k + 1) s3 := by rw [← hT3]; exact (OA.out k (by omega)).1
          have hc3 := cntB_at ss k (by omega)
          rw [hT3] at hc3
          have hc4 := cntB_mono ss (i := 0) (j := k) (by omega)
          have LO := ord_len OA.out hb3 (by have := OL.out; omega) (ss.length + 1)
          have HB3 := Lib.hid hb3
          have HST := Lib.hid hST0
          have HW := Lib.hid hW0
          have hzw : w.heap.size < wr.heap.size := by omega
          have fr0 := below_cell hb fm0
          have fr1 := below_cell hb fm1
          have fr2 := below_cell hb fm2
          have fr3 := below_cell hb fm3



          have q2 := Lib.hid (show n2' ≤ 1048576 ∧ n3' ≤ 1048576 ∧ n4' ≤ 1048576 by omega)
          clear hl0 hST0 hW0 hT3 hb3 hc3 hc4 q3 q4
          go_wp2_with fail
          refine (specL3Stmt _ lo hi lo' hi' x0 x1 _ _ y0 y1 A2' n2' c2' s2 A3' A4' n3' c3' n4' c4' A n' c' ps (h2.below (show Below wr.heap.size wr _ by (repeat (first | with_reducible exact Below.refl _ _ | with_reducible assumption | with_reducible refine below_alloc ?_ _ | ((with_reducible refine Below.setCell ?_ ?_ _); rotate_left; (· first | exact Nat.le_refl _ | (simp; done) | (simp; omega))) | with_reducible refine below_drewN ?_ _ | with_reducible refine Below.drew ?_ | with_reducible refine below_then ?_ (by with_reducible assumption)))) (by omega)) (hP.below (below_then hxr (show Below wr.heap.size wr _ by (repeat (first | with_reducible exact Below.refl _ _ | with_reducible assumption | with_reducible refine below_alloc ?_ _ | ((with_reducible refine Below.setCell ?_ ?_ _); rotate_left; (· first | exact Nat.le_refl _ | (simp; done) | (simp; omega))) | with_reducible refine below_drewN ?_ _ | with_reducible refine Below.drew ?_ | with_reducible refine below_then ?_ (by with_reducible assumption))))) hh') (by first | omega | (simp; omega)) (by first | omega | (simp; omega)) (by omega) hn' q2.out.1 q2.out.2.1 q2.out.2.2).mono ?_
          rintro e w6 ⟨rfl, hb6⟩
          have hx6 : Below wr.heap.size wr w6 := by (repeat (first | with_reducible exact Below.refl _ _ | with_reducible assumption | with_reducible refine below_alloc ?_ _ | ((with_reducible refine Below.setCell ?_ ?_ _); rotate_left; (· first | exact Nat.le_refl _ | (simp; done) | (simp; omega))) | with_reducible refine below_drewN ?_ _ | with_reducible refine Below.drew ?_ | with_reducible refine below_then ?_ (by with_reducible assumption)))
          obtain ⟨hcE, hfE⟩ := bcell hb6
          have t0 : w6.cell? ⟨wr.heap.size, 0, none⟩ = some (.int .i64 y0) := by simp [hcE, go_sem]
          have t3 : w6.cell? ⟨wr.heap.size, 3, none⟩ = some (.slice A3' n3' c3') := by simp [hcE, go_sem]
          have hz6 := hb6.size
          simp at hz6
          clear hcE hfE hb6
          have fr0 := below_cell hx6 fr0
          have fr1 := below_cell hx6 fr1
          have fr2 := below_cell hx6 fr2
          have fr3 := below_cell hx6 fr3
          by_cases hs : stmtS x1 ps y0 y1 s2 n' n2' n3' n4' = true
          rotate_left
          · have hs : stmtS x1 ps y0 y1 s2 n' n2' n3' n4' = false := by simpa using hs
            have hn2 := Lib.hid (hno.out (by rw [HST.out, hs]; rfl))
            go_wp2_with fail
            go_ret
            exact RetB.mk (by rw [hn2.out, Bool.and_false]) (below_then hxr hx6)
          by_cases h8 : y0 = 8
          rotate_left
          · have hy2 := Lib.hid (hok.out (by rw [HST.out, hs, HW.out]; simp [h8]))
            have hd8 : (y0 != 8) = true := by simpa using h8
            clear h8
            go_wp2_with fail
            go_roundw
            case rel => exact ⟨k + 1, by omega, by go_num, hy2.out, below_then hb hx6⟩
            case measure => simp [intOf]; omega
          subst h8
          have hx26 := below_then hxr hx6
          go_wp2_with fail
          refine (specL3Order ss.length _ lo hi lo hi _ _ _ _ _ _ ss _ _ _ s3 (k + 1) (h.below hx26 hh) (h3.below hx6 (by omega)) (by omega) (by omega) OA.out HB3.out (by omega) (by omega) (by omega)).mono ?_
          rintro e w7 ⟨F7, A7, n7, c7, rfl, ho7, hF7, hb7⟩
          have hO7 := ho7.sl
          have l7 := hO7.lenEq
          have l7' := hO7.lenLe
          have hmm := Lib.hid (ordF_mem OA.out (ss.length + 1) (k + 1) s3 HB3.out)
          have hx7 := below_then hx6 hb7
          have fr3 := below_cell hb7 fr3
          clear ho7 hF7 LO
          generalize hord7 : ordF ss (ss.length + 1) s3 = ord7 at hO7 l7 hmm
          have hordH7 := Lib.hid (show ordA ss s3 = ord7 from hord7)
          clear hord7
          have hz7 := hx7.size
          go_wp2_with fail
          go_loopw [74] (fun i wq => ∃ q : Nat, q ≤ n7 ∧ i = .int .i64 q ∧ ((ord7.take q).all fun n => !(kindOf ss n == 3)) = true ∧ Below w7.heap.size w7 wq) (fun i _ => n7 - (intOf i).toNat)
          case atStart => exact ⟨0, Nat.zero_le _, rfl, rfl, Below.refl _ _⟩
          case round =>
            obtain ⟨q, hq, rfl, hal0, hbq⟩ := hrel
            have hal := Lib.hid hal0
            clear hal0
            by_cases hql : q < n7
            · obtain ⟨b', o', rfl, _, _, hc3, _⟩ := (hO7.below hbq (Nat.le_refl _)).int_at hql
              have hxin := hmm.out (ord7[q]'(by omega)) (List.getElem_mem _)
              have hok7 := Lib.hid (fun (hp : (!(kindOf ss (ord7[q]'(by omega)) == 3)) = true) => all_take_succ (p := fun n => !(kindOf ss n == 3)) hal.out (by omega) hp)
              have hno7 := Lib.hid (fun (hp : (!(kindOf ss (ord7[q]'(by omega)) == 3)) = false) => all_false (p := fun n => !(kindOf ss n == 3)) (l := ord7) (k := q) (by omega) hp)
              generalize ord7[q]'(by omega) = x at hc3 hxin hok7 hno7
              obtain ⟨j, rfl⟩ := Int.eq_ofNat_of_zero_le (show 0 ≤ x by omega)
              have hjk : j < n3 := by omega
              obtain ⟨b9, o9, e9, _, _, hk9⟩ := kind_at (h.below (below_then hxr (below_then hx7 hbq)) hh) hjk
              injection e9 with e9
              injection e9 with e91 e92
              subst e91 e92
              have fq3 := below_cell hbq fr3
              generalize hkk : kindOf ss (j : Int) = kk at hk9 hok7 hno7
              clear hkk
              by_cases h3k : kk = 3
              · subst h3k
                have hn2 := Lib.hid (hno.out (by rw [HST.out, hs, HW.out, hordH7.out, hno7.out (by rfl)]; rfl))
                go_wp2_with fail
                go_ret
                exact RetB.mk (by rw [hn2.out, Bool.and_false]) (below_then hxr (below_then hx7 hbq))
              · have hy7 := Lib.hid (hok7.out (by simpa using h3k))
                have hd3' : (kk == 3) = false := by simpa using h3k
                clear h3k
                go_wp2_with fail
                go_roundw
                case rel => exact ⟨q + 1, by omega, by go_num, hy7.out, hbq⟩
                case measure => simp [intOf]; omega
            · have hal1 := hal.out
              rw [List.take_of_length_le (by omega)] at hal1
              have hy2 := Lib.hid (hok.out (by rw [HST.out, hs, HW.out, hordH7.out, hal1]; simp))
              clear hal1
              go_wp2_with fail
              go_roundw
              case rel => exact ⟨k + 1, by omega, by go_num, hy2.out, below_then hb (below_then hx7 hbq)⟩
              case measure => simp [intOf]; omega
        · have hfin := ht.out
          rw [List.take_of_length_le (by omega)] at hfin
          have hF := Lib.hid hfin
          clear hfin
          go_wp2_with fail
          go_ret
          exact RetB.mk (by first | exact hF.out.symm | (rw [hordH.out, hid.out, hF.out]; rfl)) hxr
end Go.Proofs.Ytgagbbhnifkclaa
