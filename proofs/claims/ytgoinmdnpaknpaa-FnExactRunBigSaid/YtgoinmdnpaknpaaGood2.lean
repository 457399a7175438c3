/- Several texts in one: FuncS, FuncI. -/
import Derived.Test.YtgoinmdnpaknpaaGood1
import Derived.Test.YtgoinmdnpaknpaaTyPg

/- Whether a function is good: the reference's walk. -/
set_option linter.unusedVariables false
set_option linter.unusedSimpArgs false
set_option maxRecDepth 100000
namespace Go.Proofs.Ytgoinmdnpaknpaa
open Go.RowKit
def kindOf (ss : List Stmt) (n : Int) : Int := (ss[n.toNat]?.map fun s => s.1).getD 0
def whileB (ss : List Stmt) (s : Stmt) : Bool := !(s.1 == 8) || (ordA ss s.2.2.2.1).all fun n => !(kindOf ss n == 3)
def stOkS (fv : Int) (ps : List Int) (ss : List Stmt) (s : Stmt) : Bool := stmtS fv ps s.1 s.2.1 s.2.2.1 ps.length s.2.2.1.length s.2.2.2.1.length s.2.2.2.2.length && whileB ss s
def funcS (ps : List Int) (x0 x1 : Int) (body : List Int) (ss : List Stmt) : Bool :=
  inB x0 0 2 && inB x1 x0 6 && decide (ss.length ≤ 16) && blocksB body ss && decide ((sitesF ss).length ≤ 4) && idB (ordA ss body) && ss.all (stOkS x1 ps ss)
theorem kind_at {w : World} {lo hi : Nat} {A : Option Addr} {n c k : Nat} {l : List Stmt} (h : Sl StmtR w lo hi A n c l) (hk : k < n) : ∃ b off, A = some ⟨b, off, none⟩ ∧ lo ≤ b ∧ b < hi ∧ w.cell? ⟨b, off + k * 5, none⟩ = some (.int .i64 (kindOf l (k : Int))) := by
  have e1 := h.lenEq
  obtain ⟨b, o, x0, x1, A2, n2, c2, s2, A3, n3, c3, s3, A4, n4, c4, s4, rfl, h1, h2, hl0, _, _, _, _, _, d0, _⟩ := Stmt_at h hk
  refine ⟨b, o, rfl, h1, h2, ?_⟩
  unfold kindOf; rw [show ((k : Int)).toNat = k from rfl, List.getElem?_eq_getElem (by omega), hl0]; exact d0
set_option maxHeartbeats 8000000 in
theorem specL3Func (w : World) (lo hi lo' hi' : Nat) (x0 x1 : Int) (A2 : Option Addr) (n2 c2 : Nat) (body : List Int) (A3 : Option Addr) (n3 c3 : Nat) (ss : List Stmt) (A : Option Addr) (n' c' : Nat) (ps : List Int)
    (hB : Sl intR w lo hi A2 n2 c2 body) (h : Sl StmtR w lo hi A3 n3 c3 ss) (hP : Sl intR w lo' hi' A n' c' ps) (hh : hi ≤ w.heap.size) (hh' : hi' ≤ w.heap.size) (hn : mszLStmt ss ≤ 1048576) (hn' : n' ≤ 100) :
    Calls Try.prog 71 #[.agg #[.int .i64 x0, .int .i64 x1, .slice A2 n2 c2, .slice A3 n3 c3], .slice A n' c'] w (RetB (funcS ps x0 x1 body ss) w) := by
  have e1 := h.lenEq
  have e2 := hP.lenEq
  have hml := mszLStmt_len ss
  by_cases g1 : inB x0 0 2 = true
  rotate_left
  · have g1 : inB x0 0 2 = false := by simpa using g1
    go_enter Try.func71, Try.ntmps71
    go_wp2_with (go_at_call 44; ((with_reducible refine (specL1In _ _ _ _).mono ?_); rintro e w2 ⟨rfl, rfl⟩))
    go_ret
    exact RetB.mk (by unfold funcS; simp [g1]) (by exact belA)
  by_cases g2 : inB x1 x0 6 = true
  rotate_left
  · have g2 : inB x1 x0 6 = false := by simpa using g2
    go_enter Try.func71, Try.ntmps71
    go_wp2_with (go_at_call 44; ((with_reducible refine (specL1In _ _ _ _).mono ?_); rintro e w2 ⟨rfl, rfl⟩))
    go_ret
    exact RetB.mk (by unfold funcS; simp [g1, g2]) (by exact belA)
  by_cases g3 : n3 ≤ 16
  rotate_left
  · have g3d : decide ((n3 : Int) > 16) = true := by first | omega | (simp; done) | (simp; omega)
    have hv := Lib.hid (show funcS ps x0 x1 body ss = false by unfold funcS; simp [g1, g2, show ¬ ss.length ≤ 16 by omega])
    go_enter Try.func71, Try.ntmps71
    go_wp2_with (go_at_call 44; ((with_reducible refine (specL1In _ _ _ _).mono ?_); rintro e w2 ⟨rfl, rfl⟩))
    go_ret
    exact RetB.mk hv.out.symm (by exact belA)
  have g3d : decide ((n3 : Int) > 16) = false := by first | omega | (simp; done) | (simp; omega)
  by_cases g4 : blocksB body ss = true
  rotate_left
  · have g4 : blocksB body ss = false := by simpa using g4
    have hv := Lib.hid (show funcS ps x0 x1 body ss = false by unfold funcS; simp [g4])
    go_enter Try.func71, Try.ntmps71
    go_wp2_with (first
      | (go_at_call 44; ((with_reducible refine (specL1In _ _ _ _).mono ?_); rintro e w2 ⟨rfl, rfl⟩))
      | (go_at_call 100; ((with_reducible refine (specL3Blocks _ lo hi _ _ _ _ _ body _ _ _ ss (hB.below (show Below w.heap.size w _ by exact belA) hh) (h.below (show Below w.heap.size w _ by exact belA) hh) (by first | omega | (simp; omega)) (by omega)).mono ?_); rintro e w3 ⟨rfl, hb3⟩)))
    go_ret
    exact RetB.mk hv.out.symm (by exact belA)
  by_cases g5 : (sitesF ss).length ≤ 4
  rotate_left
  · have hv := Lib.hid (show funcS ps x0 x1 body ss = false by unfold funcS; simp [show ¬ (sitesF ss).length ≤ 4 from g5])
    go_enter Try.func71, Try.ntmps71
    go_wp2_with (go_at_call 44; ((with_reducible refine (specL1In _ _ _ _).mono ?_); rintro e w2 ⟨rfl, rfl⟩))
    refine (specL3Blocks _ lo hi _ _ _ _ _ body _ _ _ ss (hB.below (show Below w.heap.size w _ by exact belA) hh) (h.below (show Below w.heap.size w _ by exact belA) hh) (by first | omega | (simp; omega)) (by omega)).mono ?_
    rintro e w3 ⟨rfl, hb3⟩
    obtain ⟨hcE, hfE⟩ := bcell hb3
    have f0 : w3.cell? ⟨w.heap.size, 0, none⟩ = some (.int .i64 x0) := by simp [hcE, go_sem]
    have f1 : w3.cell? ⟨w.heap.size, 1, none⟩ = some (.int .i64 x1) := by simp [hcE, go_sem]
    have f2 : w3.cell? ⟨w.heap.size, 2, none⟩ = some (.slice A2 n2 c2) := by simp [hcE, go_sem]
    have f3 : w3.cell? ⟨w.heap.size, 3, none⟩ = some (.slice A3 n3 c3) := by simp [hcE, go_sem]
    clear hcE hfE
    have hx3 : Below w.heap.size w w3 := by exact belA
    have hz3 := hx3.size
    go_wp2_with fail
    refine (specL3Sites _ lo hi _ _ _ _ _ _ ss (h.below hx3 hh) (by omega) (by omega)).mono ?_
    rintro e w4 ⟨F4, A4, n4, c4, rfl, ho4, hF4, hb4⟩
    have l4 := ho4.sl.lenEq
    have hd4 : decide ((n4 : Int) > 4) = true := by first | omega | (simp; done) | (simp; omega)
    clear l4 g5
    go_wp2_with fail
    go_ret
    exact RetB.mk hv.out.symm (below_then hx3 hb4)
  obtain ⟨oB, oA, oL⟩ := blocksB_len g4 (by omega)
  have hF : funcS ps x0 x1 body ss = (idB (ordA ss body) && ss.all (stOkS x1 ps ss)) := by unfold funcS; rw [g1, g2, decide_eq_true (by omega : ss.length ≤ 16), g4, decide_eq_true g5]; rfl
  rw [hF]
  clear hF
  have g2' := inB_iff.1 g2
  have g1' := inB_iff.1 g1
  have OA := Lib.hid oA
  have OB := Lib.hid oB
  have OL := Lib.hid oL
  have LO := ord_len oA oB (by omega) (ss.length + 1)
  clear oA oB oL
  have hd3 : decide ((n3 : Int) > 16) = false := by first | omega | (simp; done) | (simp; omega)
  go_enter Try.func71, Try.ntmps71
  go_wp2_with (go_at_call 44; ((with_reducible refine (specL1In _ _ _ _).mono ?_); rintro e w2 ⟨rfl, rfl⟩))
  refine (specL3Blocks _ lo hi _ _ _ _ _ body _ _ _ ss (hB.below (show Below w.heap.size w _ by exact belA) hh) (h.below (show Below w.heap.size w _ by exact belA) hh) (by first | omega | (simp; omega)) (by omega)).mono ?_
  rintro e w3 ⟨rfl, hb3⟩
  have hB3 : Below (w.heap.size + 1) (w.alloc (.cells #[.int .i64 x0, .int .i64 x1, .slice A2 n2 c2, .slice A3 n3 c3] 97)) w3 := by have := hb3; simp at this; exact this
  have hx3 : Below w.heap.size w w3 := by exact belA
  have hz3 := hx3.size
  have f30 : w3.cell? ⟨w.heap.size, 0, none⟩ = some (.int .i64 x0) := (hB3.cell (p := ⟨w.heap.size, 0, none⟩) (by simp)).trans (by simp [go_sem])
  have f31 : w3.cell? ⟨w.heap.size, 1, none⟩ = some (.int .i64 x1) := (hB3.cell (p := ⟨w.heap.size, 1, none⟩) (by simp)).trans (by simp [go_sem])
  have f32 : w3.cell? ⟨w.heap.size, 2, none⟩ = some (.slice A2 n2 c2) := (hB3.cell (p := ⟨w.heap.size, 2, none⟩) (by simp)).trans (by simp [go_sem])
  have f33 : w3.cell? ⟨w.heap.size, 3, none⟩ = some (.slice A3 n3 c3) := (hB3.cell (p := ⟨w.heap.size, 3, none⟩) (by simp)).trans (by simp [go_sem])
  go_wp2_with fail
  refine (specL3Sites _ lo hi _ _ _ _ _ _ ss (h.below hx3 hh) (by omega) (by omega)).mono ?_
  rintro e w4 ⟨F4, A4, n4, c4, rfl, ho4, hF4, hb4⟩
  have l4 := ho4.sl.lenEq
  have hd4 : decide ((n4 : Int) > 4) = false := by first | omega | (simp; done) | (simp; omega)
  have hz34 := hb3.size
  simp at hz34
  have hB4 := hB3.trans (hb4.mono (show w.heap.size + 1 ≤ w3.heap.size by omega))
  have hx4 : Below w.heap.size w w4 := below_then hx3 hb4
  have hz4 := hx4.size
  have hz45 := hb4.size
  clear l4 g5 ho4 hF4 hb3 hb4
  have f40 : w4.cell? ⟨w.heap.size, 0, none⟩ = some (.int .i64 x0) := (hB4.cell (p := ⟨w.heap.size, 0, none⟩) (by simp)).trans (by simp [go_sem])
  have f41 : w4.cell? ⟨w.heap.size, 1, none⟩ = some (.int .i64 x1) := (hB4.cell (p := ⟨w.heap.size, 1, none⟩) (by simp)).trans (by simp [go_sem])
  have f42 : w4.cell? ⟨w.heap.size, 2, none⟩ = some (.slice A2 n2 c2) := (hB4.cell (p := ⟨w.heap.size, 2, none⟩) (by simp)).trans (by simp [go_sem])
  have f43 : w4.cell? ⟨w.heap.size, 3, none⟩ = some (.slice A3 n3 c3) := (hB4.cell (p := ⟨w.heap.size, 3, none⟩) (by simp)).trans (by simp [go_sem])
  go_wp2_with fail
  refine (specL3Order ss.length _ lo hi lo hi _ _ _ _ _ _ ss _ _ _ body 0 (h.below hx4 hh) (hB.below hx4 hh) (by omega) (by omega) OA.out OB.out (by omega) (by omega) (by omega)).mono ?_
  rintro e w5 ⟨F5, A5, n5, c5, rfl, ho5, hF5, hb5⟩
  have hB5 := hB4.trans (hb5.mono (show w.heap.size + 1 ≤ w4.heap.size by omega))
  have hx5 : Below w.heap.size w w5 := below_then hx4 hb5
  have hO5 := ho5.sl
  have l5 := hO5.lenEq
  have l5' := hO5.lenLe
  clear hb5 ho5 hF5
  have f50 : w5.cell? ⟨w.heap.size, 0, none⟩ = some (.int .i64 x0) := (hB5.cell (p := ⟨w.heap.size, 0, none⟩) (by simp)).trans (by simp [go_sem])
  have f51 : w5.cell? ⟨w.heap.size, 1, none⟩ = some (.int .i64 x1) := (hB5.cell (p := ⟨w.heap.size, 1, none⟩) (by simp)).trans (by simp [go_sem])
  have f52 : w5.cell? ⟨w.heap.size, 2, none⟩ = some (.slice A2 n2 c2) := (hB5.cell (p := ⟨w.heap.size, 2, none⟩) (by simp)).trans (by simp [go_sem])
  have f53 : w5.cell? ⟨w.heap.size, 3, none⟩ = some (.slice A3 n3 c3) := (hB5.cell (p := ⟨w.heap.size, 3, none⟩) (by simp)).trans (by simp [go_sem])
  generalize hord : ordF ss (ss.length + 1) body = ord at hO5 l5
  have hordH := Lib.hid (show ordA ss body = ord from hord)
  clear hord LO
  have hz5 := hx5.size
  go_wp2_with fail
  go_loopw [45] (fun i wr => ∃ k : Nat, k ≤ n5 ∧ i = .int .i64 k ∧ ((List.range k).all fun k => ord.getD k 0 == (k : Int)) = true ∧ Below w5.heap.size w5 wr) (fun i _ => n5 - (intOf i).toNat)
  case atStart => exact ⟨0, Nat.zero_le _, rfl, rfl, Below.refl _ _⟩
  case round =>
    obtain ⟨k, hk, rfl, ht0, hb⟩ := hrel
    have ht := Lib.hid ht0
    clear ht0
    by_cases hlt : k < n5
    · obtain ⟨b, o, rfl, _, _, hc1, _⟩ := (hO5.below hb (Nat.le_refl _)).int_at hlt
      have hxe : ord.getD k 0 = ord[k]'(by omega) := by simp only [List.getD]; rw [List.getElem?_eq_getElem (by omega), Option.getD_some]
      generalize hx0 : ord[k]'(by omega) = x at hc1 hxe
      by_cases hxk : x = (k : Int)
      · have hok := Lib.hid (range_all_succ (p := fun k => ord.getD k 0 == (k : Int)) ht.out (by rw [hxe, hxk]; simp))
        subst hxk
        clear hxe hx0
        go_wp2_with fail
        go_roundw
        case rel => exact ⟨k + 1, by omega, by go_num, hok.out, hb⟩
        case measure => simp [intOf]; omega
      · have hno := Lib.hid (show idB ord = false from range_all_false (p := fun k => ord.getD k 0 == (k : Int)) (n := ord.length) (k := k) (by omega) (by rw [hxe]; simpa using hxk))
        have hd : (x != (k : Int)) = true := by simpa using hxk
        clear hxe hx0 hxk
        go_wp2_with fail
        go_ret
        exact RetB.mk (by rw [hordH.out, hno.out]; rfl) (below_then hx5 hb)
    · have hid := Lib.hid (show idB ord = true by unfold idB; rw [show ord.length = k by omega]; exact ht.out)
      obtain ⟨wm, rfl⟩ : ∃ wm, wm = wr := ⟨_, rfl⟩
      have hxm : Below w.heap.size w wm := below_then hx5 hb
      have hBm := hB5.trans (hb.mono (show w.heap.size + 1 ≤ w5.heap.size by have := hB5.size; simp at this; omega))
      have hzm := hxm.size
      have hzm2 := hBm.size
      simp at hzm2
      rw [hordH.out, hid.out, Bool.true_and]
      clear hO5 l5 l5' hb hB5 hx5 ht hk
      have fm0 : wm.cell? ⟨w.heap.size, 0, none⟩ = some (.int .i64 x0) := (hBm.cell (p := ⟨w.heap.size, 0, none⟩) (by simp)).trans (by simp [go_sem])
      have fm1 : wm.cell? ⟨w.heap.size, 1, none⟩ = some (.int .i64 x1) := (hBm.cell (p := ⟨w.heap.size, 1, none⟩) (by simp)).trans (by simp [go_sem])
      have fm2 : wm.cell? ⟨w.heap.size, 2, none⟩ = some (.slice A2 n2 c2) := (hBm.cell (p := ⟨w.heap.size, 2, none⟩) (by simp)).trans (by simp [go_sem])
      have fm3 : wm.cell? ⟨w.heap.size, 3, none⟩ = some (.slice A3 n3 c3) := (hBm.cell (p := ⟨w.heap.size, 3, none⟩) (by simp)).trans (by simp [go_sem])
      go_wp2_with fail
      clear hlt
      go_loopw [57] (fun i wr => ∃ k : Nat, k ≤ n3 ∧ i = .int .i64 k ∧ ((ss.take k).all (stOkS x1 ps ss)) = true ∧ Below wm.heap.size wm wr) (fun i _ => n3 - (intOf i).toNat)
      case atStart => exact ⟨0, Nat.zero_le _, rfl, rfl, Below.refl _ _⟩
      case round =>
        obtain ⟨k, hk, rfl, ht0, hb⟩ := hrel
        have ht := Lib.hid ht0
        clear ht0
        have hxr := below_then hxm hb
        have hzr := hb.size
        by_cases hlt : k < n3
        · obtain ⟨bb, oo, y0, y1, A2', n2', c2', s2, A3', n3', c3', s3, A4', n4', c4', s4, rfl, hb1', hb2', hl0, i0, i1, h2, h3, h4, d0, d1, d2, d3, d4⟩ := Stmt_at (h.below hxr hh) hlt
          have q2 := h2.lenEq
          have q3 := h3.lenEq
          have q4 := h4.lenEq
          have hm := mszStmt_at (l := ss) (k := k) (by omega)
          rw [hl0] at hm
          simp only [mszStmt] at hm
          have hST0 : stOkS x1 ps ss (ss[k]'(by omega)) = (stmtS x1 ps y0 y1 s2 n' n2' n3' n4' && whileB ss (ss[k]'(by omega))) := by unfold stOkS; rw [hl0]; simp only [q2, q3, q4, e2]
          have hW0 : whileB ss (ss[k]'(by omega)) = (!(y0 == 8) || (ordA ss s3).all fun n => !(kindOf ss n == 3)) := by unfold whileB; rw [hl0]
          have hok := Lib.hid (fun (hp : stOkS x1 ps ss (ss[k]'(by omega)) = true) => all_take_succ (p := stOkS x1 ps ss) ht.out (by omega) hp)
          have hno := Lib.hid (fun (hp : stOkS x1 ps ss (ss[k]'(by omega)) = false) => all_false (p := stOkS x1 ps ss) (l := ss) (k := k) (by omega) hp)
          have hT3 : thenOf ss (k : Int) = s3 := by unfold thenOf; rw [show ((k : Int)).toNat = k from rfl, List.getElem?_eq_getElem (by omega), hl0]; rfl
          have hb3 : okB ss (k + 1) s3 := by rw [← hT3]; exact (OA.out k (by omega)).1
          have hc3 := cntB_at ss k (by omega)
          rw [hT3] at hc3
          have hc4 := cntB_mono ss (i := 0) (j := k) (by omega)
          have LO := ord_len OA.out hb3 (by have := OL.out; omega) (ss.length + 1)
          have HB3 := Lib.hid hb3
          have HST := Lib.hid hST0
          have HW := Lib.hid hW0
          have hzw : w.heap.size < wr.heap.size := by omega
          have fr0 := below_cell hb fm0
          have fr1 := below_cell hb fm1
          have fr2 := below_cell hb fm2
          have fr3 := below_cell hb fm3



          have q2 := Lib.hid (show n2' ≤ 1048576 ∧ n3' ≤ 1048576 ∧ n4' ≤ 1048576 by omega)
          clear hl0 hST0 hW0 hT3 hb3 hc3 hc4 q3 q4
          go_wp2_with fail
          refine (specL3Stmt _ lo hi lo' hi' x0 x1 _ _ y0 y1 A2' n2' c2' s2 A3' A4' n3' c3' n4' c4' A n' c' ps (h2.below (show Below wr.heap.size wr _ by exact belA) (by omega)) (hP.below (below_then hxr (show Below wr.heap.size wr _ by exact belA)) hh') (by first | omega | (simp; omega)) (by first | omega | (simp; omega)) (by omega) hn' q2.out.1 q2.out.2.1 q2.out.2.2).mono ?_
          rintro e w6 ⟨rfl, hb6⟩
          have hx6 : Below wr.heap.size wr w6 := by exact belA
          obtain ⟨hcE, hfE⟩ := bcell hb6
          have t0 : w6.cell? ⟨wr.heap.size, 0, none⟩ = some (.int .i64 y0) := by simp [hcE, go_sem]
          have t3 : w6.cell? ⟨wr.heap.size, 3, none⟩ = some (.slice A3' n3' c3') := by simp [hcE, go_sem]
          have hz6 := hb6.size
          simp at hz6
          clear hcE hfE hb6
          have fr0 := below_cell hx6 fr0
          have fr1 := below_cell hx6 fr1
          have fr2 := below_cell hx6 fr2
          have fr3 := below_cell hx6 fr3
          by_cases hs : stmtS x1 ps y0 y1 s2 n' n2' n3' n4' = true
          rotate_left
          · have hs : stmtS x1 ps y0 y1 s2 n' n2' n3' n4' = false := by simpa using hs
            have hn2 := Lib.hid (hno.out (by rw [HST.out, hs]; rfl))
            go_wp2_with fail
            go_ret
            exact RetB.mk (by rw [hn2.out, Bool.and_false]) (below_then hxr hx6)
          by_cases h8 : y0 = 8
          rotate_left
          · have hy2 := Lib.hid (hok.out (by rw [HST.out, hs, HW.out]; simp [h8]))
            have hd8 : (y0 != 8) = true := by simpa using h8
            clear h8
            go_wp2_with fail
            go_roundw
            case rel => exact ⟨k + 1, by omega, by go_num, hy2.out, below_then hb hx6⟩
            case measure => simp [intOf]; omega
          subst h8
          have hx26 := below_then hxr hx6
          go_wp2_with fail
          refine (specL3Order ss.length _ lo hi lo hi _ _ _ _ _ _ ss _ _ _ s3 (k + 1) (h.below hx26 hh) (h3.below hx6 (by omega)) (by omega) (by omega) OA.out HB3.out (by omega) (by omega) (by omega)).mono ?_
          rintro e w7 ⟨F7, A7, n7, c7, rfl, ho7, hF7, hb7⟩
          have hO7 := ho7.sl
          have l7 := hO7.lenEq
          have l7' := hO7.lenLe
          have hmm := Lib.hid (ordF_mem OA.out (ss.length + 1) (k + 1) s3 HB3.out)
          have hx7 := below_then hx6 hb7
          have fr3 := below_cell hb7 fr3
          clear ho7 hF7 LO
          generalize hord7 : ordF ss (ss.length + 1) s3 = ord7 at hO7 l7 hmm
          have hordH7 := Lib.hid (show ordA ss s3 = ord7 from hord7)
          clear hord7
          have hz7 := hx7.size
          go_wp2_with fail
          go_loopw [74] (fun i wq => ∃ q : Nat, q ≤ n7 ∧ i = .int .i64 q ∧ ((ord7.take q).all fun n => !(kindOf ss n == 3)) = true ∧ Below w7.heap.size w7 wq) (fun i _ => n7 - (intOf i).toNat)
          case atStart => exact ⟨0, Nat.zero_le _, rfl, rfl, Below.refl _ _⟩
          case round =>
            obtain ⟨q, hq, rfl, hal0, hbq⟩ := hrel
            have hal := Lib.hid hal0
            clear hal0
            by_cases hql : q < n7
            · obtain ⟨b', o', rfl, _, _, hc3, _⟩ := (hO7.below hbq (Nat.le_refl _)).int_at hql
              have hxin := hmm.out (ord7[q]'(by omega)) (List.getElem_mem _)
              have hok7 := Lib.hid (fun (hp : (!(kindOf ss (ord7[q]'(by omega)) == 3)) = true) => all_take_succ (p := fun n => !(kindOf ss n == 3)) hal.out (by omega) hp)
              have hno7 := Lib.hid (fun (hp : (!(kindOf ss (ord7[q]'(by omega)) == 3)) = false) => all_false (p := fun n => !(kindOf ss n == 3)) (l := ord7) (k := q) (by omega) hp)
              generalize ord7[q]'(by omega) = x at hc3 hxin hok7 hno7
              obtain ⟨j, rfl⟩ := Int.eq_ofNat_of_zero_le (show 0 ≤ x by omega)
              have hjk : j < n3 := by omega
              obtain ⟨b9, o9, e9, _, _, hk9⟩ := kind_at (h.below (below_then hxr (below_then hx7 hbq)) hh) hjk
              injection e9 with e9
              injection e9 with e91 e92
              subst e91 e92
              have fq3 := below_cell hbq fr3
              generalize hkk : kindOf ss (j : Int) = kk at hk9 hok7 hno7
              clear hkk
              by_cases h3k : kk = 3
              · subst h3k
                have hn2 := Lib.hid (hno.out (by rw [HST.out, hs, HW.out, hordH7.out, hno7.out (by rfl)]; rfl))
                go_wp2_with fail
                go_ret
                exact RetB.mk (by rw [hn2.out, Bool.and_false]) (below_then hxr (below_then hx7 hbq))
              · have hy7 := Lib.hid (hok7.out (by simpa using h3k))
                have hd3' : (kk == 3) = false := by simpa using h3k
                clear h3k
                go_wp2_with fail
                go_roundw
                case rel => exact ⟨q + 1, by omega, by go_num, hy7.out, hbq⟩
                case measure => simp [intOf]; omega
            · have hal1 := hal.out
              rw [List.take_of_length_le (by omega)] at hal1
              have hy2 := Lib.hid (hok.out (by rw [HST.out, hs, HW.out, hordH7.out, hal1]; simp))
              clear hal1
              go_wp2_with fail
              go_roundw
              case rel => exact ⟨k + 1, by omega, by go_num, hy2.out, below_then hb (below_then hx7 hbq)⟩
              case measure => simp [intOf]; omega
        · have hfin := ht.out
          rw [List.take_of_length_le (by omega)] at hfin
          have hF := Lib.hid hfin
          clear hfin
          go_wp2_with fail
          go_ret
          exact RetB.mk (by first | exact hF.out.symm | (rw [hordH.out, hid.out, hF.out]; rfl)) hxr
end Go.Proofs.Ytgoinmdnpaknpaa

/- Whether a function is good: the program's walk. -/
set_option linter.unusedVariables false
set_option linter.unusedSimpArgs false
set_option maxRecDepth 100000
namespace Go.Proofs.Ytgoinmdnpaknpaa
open Go.RowKit
def inBs (ss : List Stmt) (lo : Int) (b : List Int) : Bool := b.all fun n => inB n lo ((ss.length : Int) - 1)
def rangesB (ss : List Stmt) : Bool := (List.range ss.length).all fun i => inBs ss ((i : Int) + 1) (thenOf ss (i : Int)) && inBs ss ((i : Int) + 1) (elseOf ss (i : Int))
def shapeI (x0 x1 : Int) (body : List Int) (ss : List Stmt) : Bool :=
  inB x0 0 2 && inB x1 x0 6 && decide (ss.length ≤ 16) && decide ((sitesF ss).length ≤ 4) && rangesB ss && decide (body.length + cntB ss 0 = ss.length) && inBs ss 0 body && idB (ordA ss body) && (decide ((ordA ss body).length = ss.length) && ss.all (whileB ss))
theorem inBs_ok {ss : List Stmt} {lo : Nat} {b : List Int} (h : inBs ss (lo : Int) b = true) : okB ss lo b := by
  intro n hn
  unfold inBs at h
  rw [List.all_eq_true] at h
  have := inB_iff.1 (h n hn); omega
theorem ok_inBs {ss : List Stmt} {lo : Nat} {b : List Int} (h : okB ss lo b) : inBs ss (lo : Int) b = true := by
  unfold inBs; rw [List.all_eq_true]
  intro n hn
  have := h n hn; exact inB_true (by omega)
theorem rangesB_ok {ss : List Stmt} (h : rangesB ss = true) : okAll ss := by
  intro i hi
  unfold rangesB at h
  rw [List.all_eq_true] at h
  have := h i (List.mem_range.2 hi)
  rw [Bool.and_eq_true, show ((i : Int) + 1) = ((i + 1 : Nat) : Int) by omega] at this
  exact ⟨inBs_ok this.1, inBs_ok this.2⟩
theorem ok_rangesB {ss : List Stmt} (h : okAll ss) : rangesB ss = true := by
  unfold rangesB; rw [List.all_eq_true]
  intro i hi
  have := h i (List.mem_range.1 hi)
  rw [Bool.and_eq_true, show ((i : Int) + 1) = ((i + 1 : Nat) : Int) by omega]
  exact ⟨ok_inBs this.1, ok_inBs this.2⟩
def useTo (body : List Int) (ss : List Stmt) (k : Nat) : Nat := body.length + ((ss.take k).map fun s => s.2.2.2.1.length + s.2.2.2.2.length).sum
theorem useTo_succ {body : List Int} {ss : List Stmt} {k : Nat} (hk : k < ss.length) : useTo body ss (k + 1) = useTo body ss k + (ss[k].2.2.2.1.length + ss[k].2.2.2.2.length) := by
  unfold useTo; rw [sum_take_succ (f := fun s : Stmt => s.2.2.2.1.length + s.2.2.2.2.length) hk]; omega
theorem useTo_all (body : List Int) (ss : List Stmt) : useTo body ss ss.length = body.length + cntB ss 0 := by unfold useTo cntB; rw [List.take_length, List.drop_zero]
theorem useTo_le (body : List Int) (ss : List Stmt) (k : Nat) : useTo body ss k ≤ body.length + mszLStmt ss := by
  unfold useTo mszLStmt
  have h1 : ((ss.take k).map fun s => s.2.2.2.1.length + s.2.2.2.2.length).sum ≤ ((ss.take k).map mszStmt).sum := by
    induction ss.take k with
    | nil => simp
    | cons s l ih => have e : mszStmt s = s.2.2.1.length + s.2.2.2.1.length + s.2.2.2.2.length := rfl; simp only [List.map_cons, List.sum_cons]; omega
  have h2 : ((ss.take k).map mszStmt).sum ≤ (ss.map mszStmt).sum := by
    have : (ss.map mszStmt).sum = ((ss.take k).map mszStmt).sum + ((ss.drop k).map mszStmt).sum := by rw [← List.sum_append, ← List.map_append, List.take_append_drop]
    omega
  omega
theorem below_of_fr0 {w w' : World} (hf : Fr (Value.slice none 0 0).ownBlock.toList w w') : Below w.heap.size w w' := ⟨hf.os, hf.tape, hf.output, hf.size, fun i hi => hf.block i hi (by simp [Value.ownBlock])⟩
theorem implOrderNil (fuel : Nat) (w : World) (lo hi blo bhi : Nat) (x0 x1 : Int) (v2 : Value) (A : Option Addr) (n c : Nat) (ss : List Stmt) (Ab : Option Addr) (nb cb : Nat) (bl : List Int) (lb : Nat)
    (h : Sl StmtR w lo hi A n c ss) (hb : Sl intR w blo bhi Ab nb cb bl) (hh : hi ≤ w.heap.size) (hh' : bhi ≤ w.heap.size) (ha : okAll ss) (hok : okB ss lb bl) (hf : ss.length ≤ lb + fuel) (hlen : (ordF ss (fuel + 1) bl).length ≤ 1099511627776) (hn : n ≤ 1048576) :
    Calls Try.prog 109 #[.agg #[.int .i64 x0, .int .i64 x1, v2, .slice A n c], .slice Ab nb cb, .slice none 0 0] w (RetOwn intR 3 (ordF ss (fuel + 1) bl) w) := by
  have e1 := h.lenEq
  have hmo := ordF_mem ha (fuel + 1) lb bl hok
  refine (implOrderOf fuel w lo hi blo bhi x0 x1 v2 A n c ss Ab nb cb bl (.slice none 0 0) [] lb h hb hh hh' (World.ownsRow_nil _ _ _ _) (fun g hg => absurd hg (by simp [Value.ownBlock])) ha hok hf (by rw [List.length_nil]; omega)).mono ?_
  rintro e w' ⟨v', rfl, ho, hf', hrl⟩
  simp only [List.nil_append] at ho
  have hown := own_ints ho (fun x hx => by have := hmo x hx; unfold I64; omega)
  obtain ⟨A', n', c', rfl, _⟩ := hown.form
  refine ⟨_, A', n', c', rfl, hown, fun k hk => ?_, below_of_fr0 hf'⟩
  rcases hrl with h | h
  · rw [h] at hk; simp [Value.ownBlock] at hk
  · exact h k (by simpa using hk)
theorem isShaped1 (w : World) (x : Int) (i : Nat) (p q : Nat) (n c : Nat) (A : Option Addr) (hi : w.cell? ⟨p, 0, none⟩ = some (.int .i64 (i : Int))) (hs : w.cell? ⟨q, 3, none⟩ = some (.slice A n c)) (hn : n ≤ 1048576) (hi2 : i ≤ 1048576) :
    Calls Try.prog 107 (#[.int .i64 x] ++ #[.pointer (some ⟨p, 0, none⟩), .pointer (some ⟨q, 0, none⟩)]) w (RetB (!inB x ((i : Int) + 1) ((n : Int) - 1)) w) := by
  show Calls Try.prog 107 #[.int .i64 x, .pointer (some ⟨p, 0, none⟩), .pointer (some ⟨q, 0, none⟩)] w _
  go_enter Try.func107, Try.ntmps107
  go_wp2_with (go_at_call 45; refine (implWithin _ _ _ _).mono ?_; rintro e w2 ⟨rfl, rfl⟩)
  go_ret
  exact RetB.mk rfl (by exact belA)
theorem isShaped2 (w : World) (x : Int) (q : Nat) (n c : Nat) (A : Option Addr) (hs : w.cell? ⟨q, 3, none⟩ = some (.slice A n c)) (hn : n ≤ 1048576) :
    Calls Try.prog 108 (#[.int .i64 x] ++ #[.pointer (some ⟨q, 0, none⟩)]) w (RetB (!inB x 0 ((n : Int) - 1)) w) := by
  show Calls Try.prog 108 #[.int .i64 x, .pointer (some ⟨q, 0, none⟩)] w _
  go_enter Try.func108, Try.ntmps108
  go_wp2_with (go_at_call 45; refine (implWithin _ _ _ _).mono ?_; rintro e w2 ⟨rfl, rfl⟩)
  go_ret
  exact RetB.mk rfl (by exact belA)
set_option maxHeartbeats 8000000 in
theorem implIsShaped (w : World) (lo hi : Nat) (x0 x1 : Int) (A2 : Option Addr) (n2 c2 : Nat) (body : List Int) (A3 : Option Addr) (n3 c3 : Nat) (ss : List Stmt)
    (hB : Sl intR w lo hi A2 n2 c2 body) (h : Sl StmtR w lo hi A3 n3 c3 ss) (hh : hi ≤ w.heap.size) (hn : mszLStmt ss ≤ 1048576) (hn2 : n2 ≤ 1048576) :
    Calls Try.prog 78 #[.agg #[.int .i64 x0, .int .i64 x1, .slice A2 n2 c2, .slice A3 n3 c3]] w (RetB (shapeI x0 x1 body ss) w) := by
  have e1 := h.lenEq
  have e2 := hB.lenEq
  have hml := mszLStmt_len ss
  by_cases g1 : inB x0 0 2 = true
  rotate_left
  · have g1 : inB x0 0 2 = false := by simpa using g1
    go_enter Try.func78, Try.ntmps78
    go_wp2_with (go_at_call 45; ((with_reducible refine (implWithin _ _ _ _).mono ?_); rintro e w2 ⟨rfl, rfl⟩))
    go_ret
    exact RetB.mk (by unfold shapeI; simp [g1]) (by exact belA)
  by_cases g2 : inB x1 x0 6 = true
  rotate_left
  · have g2 : inB x1 x0 6 = false := by simpa using g2
    go_enter Try.func78, Try.ntmps78
    go_wp2_with (go_at_call 45; ((with_reducible refine (implWithin _ _ _ _).mono ?_); rintro e w2 ⟨rfl, rfl⟩))
    go_ret
    exact RetB.mk (by unfold shapeI; simp [g1, g2]) (by exact belA)
  by_cases g3 : n3 ≤ 16
  rotate_left
  · have g3d : decide ((n3 : Int) > 16) = true := by first | omega | (simp; done) | (simp; omega)
    have hv := Lib.hid (show shapeI x0 x1 body ss = false by unfold shapeI; simp [g1, g2, show ¬ ss.length ≤ 16 by omega])
    go_enter Try.func78, Try.ntmps78
    go_wp2_with (go_at_call 45; ((with_reducible refine (implWithin _ _ _ _).mono ?_); rintro e w2 ⟨rfl, rfl⟩))
    go_ret
    exact RetB.mk hv.out.symm (by exact belA)
  have g3d : decide ((n3 : Int) > 16) = false := by first | omega | (simp; done) | (simp; omega)
  by_cases g5 : (sitesF ss).length ≤ 4
  rotate_left
  · have hv := Lib.hid (show shapeI x0 x1 body ss = false by unfold shapeI; simp [show ¬ (sitesF ss).length ≤ 4 from g5])
    go_enter Try.func78, Try.ntmps78
    go_wp2_with (go_at_call 45; ((with_reducible refine (implWithin _ _ _ _).mono ?_); rintro e w2 ⟨rfl, rfl⟩))
    refine (implSitesOf _ lo hi _ _ _ _ _ _ ss (h.below (show Below w.heap.size w _ by exact belA) hh) (by first | omega | (simp; omega)) (by omega)).mono ?_
    rintro e w4 ⟨F4, A4, n4, c4, rfl, ho4, hF4, hb4⟩
    have l4 := ho4.sl.lenEq
    have hd4 : decide ((n4 : Int) > 4) = true := by first | omega | (simp; done) | (simp; omega)
    clear l4 g5
    go_wp2_with fail
    go_ret
    exact RetB.mk hv.out.symm (by exact belA)
  have hF := Lib.hid (show shapeI x0 x1 body ss = (rangesB ss && decide (body.length + cntB ss 0 = ss.length) && inBs ss 0 body && idB (ordA ss body) && (decide ((ordA ss body).length = ss.length) && ss.all (whileB ss))) by unfold shapeI; rw [g1, g2, decide_eq_true (by omega : ss.length ≤ 16), decide_eq_true g5]; rfl)
  go_enter Try.func78, Try.ntmps78
  go_wp2_with (go_at_call 45; ((with_reducible refine (implWithin _ _ _ _).mono ?_); rintro e w2 ⟨rfl, rfl⟩))
  refine (implSitesOf _ lo hi _ _ _ _ _ _ ss (h.below (show Below w.heap.size w _ by exact belA) hh) (by first | omega | (simp; omega)) (by omega)).mono ?_
  rintro e w3 ⟨F4, A4, n4, c4, rfl, ho4, hF4, hb3⟩
  have l4 := ho4.sl.lenEq
  have hd4 : decide ((n4 : Int) > 4) = false := by first | omega | (simp; done) | (simp; omega)
  have hB3 : Below (w.heap.size + 1) (w.alloc (.cells #[.int .i64 x0, .int .i64 x1, .slice A2 n2 c2, .slice A3 n3 c3] 97)) w3 := by have := hb3; simp at this; exact this
  have hx3 : Below w.heap.size w w3 := by exact belA
  have hz3 := hB3.size
  simp at hz3
  have hzw3 : w.heap.size < w3.heap.size := by omega
  clear l4 ho4 hF4 hb3 g5 g1 g2
  have f30 : w3.cell? ⟨w.heap.size, 0, none⟩ = some (.int .i64 x0) := (hB3.cell (p := ⟨w.heap.size, 0, none⟩) (by simp)).trans (by simp [go_sem])
  have f31 : w3.cell? ⟨w.heap.size, 1, none⟩ = some (.int .i64 x1) := (hB3.cell (p := ⟨w.heap.size, 1, none⟩) (by simp)).trans (by simp [go_sem])
  have f32 : w3.cell? ⟨w.heap.size, 2, none⟩ = some (.slice A2 n2 c2) := (hB3.cell (p := ⟨w.heap.size, 2, none⟩) (by simp)).trans (by simp [go_sem])
  have f33 : w3.cell? ⟨w.heap.size, 3, none⟩ = some (.slice A3 n3 c3) := (hB3.cell (p := ⟨w.heap.size, 3, none⟩) (by simp)).trans (by simp [go_sem])
  have hu0 := Lib.hid (show useTo body ss 0 = n2 by simp [useTo, e2])
  go_wp2_with fail
  go_loopw [3, 45] (fun u i wr => ∃ (k U : Nat), k ≤ n3 ∧ i = .int .i64 k ∧ u = .int .i64 U ∧ U = useTo body ss k ∧ ((List.range k).all fun i => inBs ss ((i : Int) + 1) (thenOf ss (i : Int)) && inBs ss ((i : Int) + 1) (elseOf ss (i : Int))) = true ∧ Below w3.heap.size w3 wr) (fun _ i _ => n3 - (intOf i).toNat)
  case atStart => exact ⟨0, n2, Nat.zero_le _, rfl, rfl, hu0.out.symm, rfl, Below.refl _ _⟩
  case round =>
    obtain ⟨k, U, hk, rfl, rfl, hU0, ht0, hb⟩ := hrel
    have hUl := useTo_le body ss k
    rw [← hU0] at hUl
    have hU := Lib.hid hU0
    have ht := Lib.hid ht0
    clear ht0 hU0
    have hxr := below_then hx3 hb
    have hzr := hb.size
    have hzw : w.heap.size < wr.heap.size := by omega
    by_cases hlt : k < n3
    · obtain ⟨bb, oo, y0, y1, A2', n2', c2', s2, A3', n3', c3', s3, A4', n4', c4', s4, rfl, hb1', hb2', hl0, i0, i1, h2, h3, h4, d0, d1, d2, d3, d4⟩ := Stmt_at (h.below hxr hh) hlt
      have q3 := h3.lenEq
      have q4 := h4.lenEq
      have hT3 := Lib.hid (show thenOf ss (k : Int) = s3 by unfold thenOf; rw [show ((k : Int)).toNat = k from rfl, List.getElem?_eq_getElem (by omega), hl0]; rfl)
      have hT4 := Lib.hid (show elseOf ss (k : Int) = s4 by unfold elseOf; rw [show ((k : Int)).toNat = k from rfl, List.getElem?_eq_getElem (by omega), hl0]; rfl)
      have hus := useTo_succ (body := body) (ss := ss) (k := k) (by omega)
      rw [hl0] at hus
      simp only [q3, q4] at hus
      have hUl2 := useTo_le body ss (k + 1)
      have hle3 : U + n3' + n4' ≤ 2097152 := by have := hU.out; omega
      have hUs := Lib.hid hus
      have e1' : ((ss.length : Int) - 1) = (n3 : Int) - 1 := by rw [e1]
      have hok := Lib.hid (fun hp => range_all_succ (p := fun i : Nat => inBs ss ((i : Int) + 1) (thenOf ss (i : Int)) && inBs ss ((i : Int) + 1) (elseOf ss (i : Int))) (k := k) ht.out hp)
      have hno := Lib.hid (fun (hp : (inBs ss ((k : Int) + 1) (thenOf ss (k : Int)) && inBs ss ((k : Int) + 1) (elseOf ss (k : Int))) = false) => show rangesB ss = false from range_all_false (p := fun i : Nat => inBs ss ((i : Int) + 1) (thenOf ss (i : Int)) && inBs ss ((i : Int) + 1) (elseOf ss (i : Int))) (n := ss.length) (k := k) (by omega) hp)
      have fr3 := below_cell hb f33
      have E1' := Lib.hid e1'
      clear hl0 hus hUl hUl2 q3 q4 e1'
      have e1'' := Lib.hid E1'.out
      obtain ⟨wo, rfl⟩ : ∃ wo, wo = wr := ⟨_, rfl⟩
      go_wp2_with fail
      go_loopw [3, 55] (fun u t wq => ∃ (q V : Nat), q ≤ 2 ∧ t = .int .i64 q ∧ u = .int .i64 V ∧ V = (if q = 0 then U else if q = 1 then U + n3' else U + n3' + n4') ∧ (1 ≤ q → inBs ss ((k : Int) + 1) s3 = true) ∧ (2 ≤ q → inBs ss ((k : Int) + 1) s4 = true) ∧ Below (wo.heap.size + 2) ((wo.alloc (.cells #[.int .i64 (k : Int)] 3)).alloc (.cells #[.int .i64 y0, .int .i64 y1, .slice A2' n2' c2', .slice A3' n3' c3', .slice A4' n4' c4'] 120)) wq) (fun _ t _ => 2 - (intOf t).toNat)
      case atStart => exact ⟨0, U, by omega, rfl, rfl, rfl, fun h => absurd h (by omega), fun h => absurd h (by omega), Below.refl _ _⟩
      case round =>
        obtain ⟨q, V, hq, rfl, rfl, hV0, hc1, hc2, hbq⟩ := hrel
        have hV := Lib.hid hV0
        clear hV0
        have hzq := hbq.size
        simp at hzq
        have hyq : Below wo.heap.size wo wr := (((Below.refl _ wo).alloc (Nat.le_refl _) _).alloc (by simp) _).trans (hbq.mono (by omega))
        have kq : wr.cell? ⟨wo.heap.size, 0, none⟩ = some (.int .i64 (k : Int)) := (hbq.cell (p := ⟨wo.heap.size, 0, none⟩) (by simp)).trans (by simp [go_sem])
        have kq3 : wr.cell? ⟨wo.heap.size + 1, 3, none⟩ = some (.slice A3' n3' c3') := (hbq.cell (p := ⟨wo.heap.size + 1, 3, none⟩) (by simp)).trans (by simp [go_sem])
        have fq3 := below_cell hyq fr3
        have e1' := e1''.out
        have EE := Lib.hid e1'
        clear e1'
        by_cases hq2 : q < 2
        · by_cases hq0 : q < 1
          · have e1' := Lib.hid EE.out
            obtain rfl : q = 0 := by omega
            have ix0 : ∀ w, (Instr.index 157 (.agg #[.slice A3' n3' c3', .slice A4' n4' c4']) (.int .i64 0)).run Try.prog w = .ok (.slice A3' n3' c3') w := fun _ => by kernel_rfl
            have hV' := Lib.hid (show V = U by have := hV.out; simpa using this)
            have hVl : V + n3' ≤ 2097152 := by have := hV'.out; omega
            have hAny := Lib.hid (any_not_all (fun x => inB x ((k : Int) + 1) ((n3 : Int) - 1)) s3)
            clear hV
            go_wp2_with fail
            refine (conFuncInt 107 #[.pointer (some ⟨wo.heap.size, 0, none⟩), .pointer (some ⟨w.heap.size, 0, none⟩)] (fun x => !inB x ((k : Int) + 1) ((n3 : Int) - 1)) _ lo hi n3' c3' A3' s3 (h3.below hyq (by omega)) (by omega) (fun _ _ => by kernel_rfl) (fun W x _ hW _ => isShaped1 W x k _ _ _ _ _ (below_cell hW kq) (below_cell hW fq3) (by omega) (by omega))).mono ?_
            rintro e w6 ⟨rfl, hb6⟩
            generalize hv : s3.any (fun x => !inB x ((k : Int) + 1) ((n3 : Int) - 1)) = v
            have hvH := Lib.hid hv
            clear hv
            cases v
            · have hin := Lib.hid (show inBs ss ((k : Int) + 1) s3 = true by unfold inBs; rw [EE.out, ← hAny.out, hvH.out]; rfl)
              go_wp2_with fail
              go_roundw
              case rel => exact ⟨0 + 1, V + n3', by omega, by first | rfl | go_num, by go_num, by have := hV'.out; simp; omega, fun _ => hin.out, fun h => absurd h (by omega), hbq.trans (hb6.mono (by omega))⟩
              case measure => simp [intOf]
            · have hno2 := Lib.hid (hno.out (by rw [hT3.out, hT4.out]; have : inBs ss ((k : Int) + 1) s3 = false := by unfold inBs; rw [EE.out, ← hAny.out, hvH.out]; rfl
                                                rw [this]; simp))
              go_wp2_with fail
              go_ret
              exact RetB.mk (by rw [hF.out, hno2.out]; rfl) (below_then hxr (below_then hyq hb6))
          · have e1' := Lib.hid EE.out
            obtain rfl : q = 1 := by omega
            have ix1 : ∀ w, (Instr.index 157 (.agg #[.slice A3' n3' c3', .slice A4' n4' c4']) (.int .i64 1)).run Try.prog w = .ok (.slice A4' n4' c4') w := fun _ => by kernel_rfl
            have hV' := Lib.hid (show V = U + n3' by have := hV.out; simpa using this)
            have hVl : V + n4' ≤ 2097152 := by have := hV'.out; omega
            have hAny := Lib.hid (any_not_all (fun x => inB x ((k : Int) + 1) ((n3 : Int) - 1)) s4)
            clear hV
            go_wp2_with fail
            refine (conFuncInt 107 #[.pointer (some ⟨wo.heap.size, 0, none⟩), .pointer (some ⟨w.heap.size, 0, none⟩)] (fun x => !inB x ((k : Int) + 1) ((n3 : Int) - 1)) _ lo hi n4' c4' A4' s4 (h4.below hyq (by omega)) (by omega) (fun _ _ => by kernel_rfl) (fun W x _ hW _ => isShaped1 W x k _ _ _ _ _ (below_cell hW kq) (below_cell hW fq3) (by omega) (by omega))).mono ?_
            rintro e w6 ⟨rfl, hb6⟩
            generalize hv : s4.any (fun x => !inB x ((k : Int) + 1) ((n3 : Int) - 1)) = v
            have hvH := Lib.hid hv
            clear hv
            cases v
            · have hin := Lib.hid (show inBs ss ((k : Int) + 1) s4 = true by unfold inBs; rw [EE.out, ← hAny.out, hvH.out]; rfl)
              go_wp2_with fail
              go_roundw
              case rel => exact ⟨1 + 1, V + n4', by omega, by first | rfl | go_num, by go_num, by have := hV'.out; simp; omega, fun _ => hc1 (by omega), fun _ => hin.out, hbq.trans (hb6.mono (by omega))⟩
              case measure => simp [intOf]
            · have hno2 := Lib.hid (hno.out (by rw [hT3.out, hT4.out]; have : inBs ss ((k : Int) + 1) s4 = false := by unfold inBs; rw [EE.out, ← hAny.out, hvH.out]; rfl
                                                rw [this]; simp))
              go_wp2_with fail
              go_ret
              exact RetB.mk (by rw [hF.out, hno2.out]; rfl) (below_then hxr (below_then hyq hb6))
        · obtain rfl : q = 2 := by omega
          have hy := Lib.hid (hok.out (by rw [hT3.out, hT4.out, hc1 (by omega), hc2 (by omega)]; rfl))
          have hV2 := Lib.hid (show V = useTo body ss (k + 1) by have := hV.out; simp at this; rw [this, hUs.out, ← hU.out]; omega)
          clear hV
          go_wp2_with fail
          go_roundw
          case rel => exact ⟨k + 1, V, by omega, by go_num, rfl, hV2.out, hy.out, below_then hb hyq⟩
          case measure => simp [intOf]; omega
    · obtain rfl : k = n3 := by omega
      have hrg := Lib.hid (show rangesB ss = true by unfold rangesB; rw [e1]; exact ht.out)
      have hUa : U = body.length + cntB ss 0 := by rw [hU.out, ← useTo_all, e1]
      have fr2 := below_cell hb f32
      have fr3 := below_cell hb f33
      have fr0 := below_cell hb f30
      have fr1 := below_cell hb f31
      obtain ⟨wm, rfl⟩ : ∃ wm, wm = wr := ⟨_, rfl⟩
      have hBm := hB3.trans (hb.mono (show w.heap.size + 1 ≤ w3.heap.size by omega))
      clear ht hU hu0 hlt f30 f31 f32 f33 hk hd4
      by_cases hUn : U = k
      rotate_left
      · have hd : ((U : Int) != (k : Int)) = true := by simp; omega
        have hv := Lib.hid (show decide (body.length + cntB ss 0 = ss.length) = false by simp; omega)
        clear hUn hUa
        go_wp2_with fail
        go_ret
        exact RetB.mk (by rw [hF.out, hv.out]; simp) hxr
      have hd : ((U : Int) != (k : Int)) = false := by simp; omega
      have hUE := Lib.hid (show body.length + cntB ss 0 = ss.length by omega)
      have hAny := Lib.hid (any_not_all (fun x => inB x 0 ((k : Int) - 1)) body)
      have E1 := Lib.hid e1
      clear hUn hUa
      go_wp2_with fail
      refine (conFuncInt 108 #[.pointer (some ⟨w.heap.size, 0, none⟩)] (fun x => !inB x 0 ((k : Int) - 1)) _ lo hi n2 c2 A2 body (hB.below hxr hh) (by omega) (fun _ _ => by kernel_rfl) (fun W x _ hW _ => isShaped2 W x _ _ _ _ (below_cell hW fr3) (by omega))).mono ?_
      rintro e w6 ⟨rfl, hb6⟩
      generalize hv : body.any (fun x => !inB x 0 ((k : Int) - 1)) = v
      have hvH := Lib.hid hv
      clear hv
      cases v
      rotate_left
      · have hv := Lib.hid (show inBs ss 0 body = false by unfold inBs; rw [E1.out, ← hAny.out, hvH.out]; rfl)
        go_wp2_with fail
        go_ret
        exact RetB.mk (by rw [hF.out, hv.out]; simp) (below_then hxr hb6)
      have hin := Lib.hid (show inBs ss 0 body = true by unfold inBs; rw [E1.out, ← hAny.out, hvH.out]; rfl)
      have OA := Lib.hid (rangesB_ok hrg.out)
      have OB := Lib.hid (inBs_ok (lo := 0) hin.out)
      have LO := ord_len OA.out OB.out (by have := hUE.out; omega) (ss.length + 1)
      have hx6 := below_then hxr hb6
      have hz6 := hb6.size
      have hB6 := hBm.trans (hb6.mono (show w.heap.size + 1 ≤ wm.heap.size by omega))
      have f60 : w6.cell? ⟨w.heap.size, 0, none⟩ = some (.int .i64 x0) := (hB6.cell (p := ⟨w.heap.size, 0, none⟩) (by simp)).trans (by simp [go_sem])
      have f61 : w6.cell? ⟨w.heap.size, 1, none⟩ = some (.int .i64 x1) := (hB6.cell (p := ⟨w.heap.size, 1, none⟩) (by simp)).trans (by simp [go_sem])
      have f62 : w6.cell? ⟨w.heap.size, 2, none⟩ = some (.slice A2 n2 c2) := (hB6.cell (p := ⟨w.heap.size, 2, none⟩) (by simp)).trans (by simp [go_sem])
      have f63 : w6.cell? ⟨w.heap.size, 3, none⟩ = some (.slice A3 k c3) := (hB6.cell (p := ⟨w.heap.size, 3, none⟩) (by simp)).trans (by simp [go_sem])
      clear hvH hAny
      go_wp2_with fail
      refine (implOrderOf ss.length _ lo hi lo hi _ _ _ _ _ _ ss _ _ _ body (.slice none 0 0) [] 0 (h.below hx6 hh) (hB.below hx6 hh) (by omega) (by omega) (World.ownsRow_nil _ _ _ _) (fun g hg => absurd hg (by simp [Value.ownBlock])) OA.out OB.out (by omega) (by rw [List.length_nil]; omega)).mono ?_
      rintro e w7 ⟨v7, rfl, ho7, hf7, _⟩
      simp only [List.nil_append] at ho7
      have hb7 : Below w6.heap.size w6 w7 := ⟨hf7.os, hf7.tape, hf7.output, hf7.size, fun i hi => hf7.block i hi (by simp [Value.ownBlock])⟩
      have hmo := ordF_mem OA.out (ss.length + 1) 0 body OB.out
      have hown7 := own_ints ho7 (fun x hx => by have := hmo x hx; unfold I64; omega)
      obtain ⟨A7, n7, c7, rfl, hn7⟩ := hown7.form
      have hO7 := hown7.sl
      have l7 := hO7.lenEq
      have l7' := hO7.lenLe
      have hx7 := below_then hx6 hb7
      have hB7 := hB6.trans (hb7.mono (show w.heap.size + 1 ≤ w6.heap.size by omega))
      have f70 : w7.cell? ⟨w.heap.size, 0, none⟩ = some (.int .i64 x0) := (hB7.cell (p := ⟨w.heap.size, 0, none⟩) (by simp)).trans (by simp [go_sem])
      have f71 : w7.cell? ⟨w.heap.size, 1, none⟩ = some (.int .i64 x1) := (hB7.cell (p := ⟨w.heap.size, 1, none⟩) (by simp)).trans (by simp [go_sem])
      have f72 : w7.cell? ⟨w.heap.size, 2, none⟩ = some (.slice A2 n2 c2) := (hB7.cell (p := ⟨w.heap.size, 2, none⟩) (by simp)).trans (by simp [go_sem])
      have f73 : w7.cell? ⟨w.heap.size, 3, none⟩ = some (.slice A3 k c3) := (hB7.cell (p := ⟨w.heap.size, 3, none⟩) (by simp)).trans (by simp [go_sem])
      clear ho7 hf7 hown7 hmo hn7
      generalize hord : ordF ss (ss.length + 1) body = ord at hO7 l7
      have hordH := Lib.hid (show ordA ss body = ord from hord)
      clear hord LO
      have hz7 := hx7.size
      go_wp2_with fail
      go_loopw [84] (fun i wr => ∃ q : Nat, q ≤ n7 ∧ i = .int .i64 q ∧ ((List.range q).all fun k => ord.getD k 0 == (k : Int)) = true ∧ Below w7.heap.size w7 wr) (fun i _ => n7 - (intOf i).toNat)
      case atStart => exact ⟨0, Nat.zero_le _, rfl, rfl, Below.refl _ _⟩
      case round =>
        obtain ⟨q, hq, rfl, ht0, hb⟩ := hrel
        have ht := Lib.hid ht0
        clear ht0
        by_cases hlt : q < n7
        · obtain ⟨b, o, rfl, _, _, hc1, _⟩ := (hO7.below hb (Nat.le_refl _)).int_at hlt
          have hxe : ord.getD q 0 = ord[q]'(by omega) := by simp only [List.getD]; rw [List.getElem?_eq_getElem (by omega), Option.getD_some]
          generalize hx0 : ord[q]'(by omega) = x at hc1 hxe
          by_cases hxk : x = (q : Int)
          · have hok := Lib.hid (range_all_succ (p := fun k => ord.getD k 0 == (k : Int)) ht.out (by rw [hxe, hxk]; simp))
            subst hxk
            clear hxe hx0
            go_wp2_with fail
            go_roundw
            case rel => exact ⟨q + 1, by omega, by go_num, hok.out, hb⟩
            case measure => simp [intOf]; omega
          · have hno := Lib.hid (show idB ord = false from range_all_false (p := fun k => ord.getD k 0 == (k : Int)) (n := ord.length) (k := q) (by omega) (by rw [hxe]; simpa using hxk))
            have hd : (x != (q : Int)) = true := by simpa using hxk
            clear hxe hx0 hxk
            go_wp2_with fail
            go_ret
            exact RetB.mk (by rw [hF.out, hordH.out, hno.out]; simp) (below_then hx7 hb)
        · have hid := Lib.hid (show idB ord = true by unfold idB; rw [show ord.length = q by omega]; exact ht.out)
          have hF2 := Lib.hid (show shapeI x0 x1 body ss = (decide (ord.length = ss.length) && ss.all (whileB ss)) by rw [hF.out, hrg.out, hin.out, hordH.out, hid.out, decide_eq_true hUE.out]; rfl)
          have hB8 := hB7.trans (hb.mono (show w.heap.size + 1 ≤ w7.heap.size by have := hb7.size; omega))
          have hx8 := below_then hx7 hb
          obtain ⟨w8, rfl⟩ : ∃ w8, w8 = wr := ⟨_, rfl⟩
          have f80 : w8.cell? ⟨w.heap.size, 0, none⟩ = some (.int .i64 x0) := (hB8.cell (p := ⟨w.heap.size, 0, none⟩) (by simp)).trans (by simp [go_sem])
          have f81 : w8.cell? ⟨w.heap.size, 1, none⟩ = some (.int .i64 x1) := (hB8.cell (p := ⟨w.heap.size, 1, none⟩) (by simp)).trans (by simp [go_sem])
          have f82 : w8.cell? ⟨w.heap.size, 2, none⟩ = some (.slice A2 n2 c2) := (hB8.cell (p := ⟨w.heap.size, 2, none⟩) (by simp)).trans (by simp [go_sem])
          have f83 : w8.cell? ⟨w.heap.size, 3, none⟩ = some (.slice A3 k c3) := (hB8.cell (p := ⟨w.heap.size, 3, none⟩) (by simp)).trans (by simp [go_sem])
          have hz8 := hx8.size
          have hz8' := hB8.size
          simp at hz8'
          clear hb ht hq
          have hLN := Lib.hid (show ord.length = n7 from l7)
          clear hO7 l7
          go_wp2_with fail
          go_loopw [96] (fun i wr => ∃ q : Nat, q ≤ k ∧ i = .int .i64 q ∧ (n7 = k → (ss.take q).all (whileB ss) = true) ∧ Below w8.heap.size w8 wr) (fun i _ => k - (intOf i).toNat)
          case atStart => exact ⟨0, Nat.zero_le _, rfl, fun _ => rfl, Below.refl _ _⟩
          case round =>
            obtain ⟨q, hq, rfl, ht0, hb⟩ := hrel
            have ht := Lib.hid ht0
            clear ht0
            have hxr := below_then hx8 hb
            have hzr := hb.size
            have hzw : w.heap.size < wr.heap.size := by omega
            by_cases hlt : q < k
            · obtain ⟨bb, oo, y0, y1, A2', n2', c2', s2, A3', n3', c3', s3, A4', n4', c4', s4, rfl, hb1', hb2', hl0, i0, i1, h2, h3, h4, d0, d1, d2, d3, d4⟩ := Stmt_at (h.below hxr hh) hlt
              have hW0 : whileB ss (ss[q]'(by omega)) = (!(y0 == 8) || (ordA ss s3).all fun n => !(kindOf ss n == 3)) := by unfold whileB; rw [hl0]
              have hok := Lib.hid (fun (hn : n7 = k) (hp : whileB ss (ss[q]'(by omega)) = true) => all_take_succ (p := whileB ss) (ht.out hn) (by omega) hp)
              have hno := Lib.hid (fun (hp : whileB ss (ss[q]'(by omega)) = false) => all_false (p := whileB ss) (l := ss) (k := q) (by omega) hp)
              have hT3 : thenOf ss (q : Int) = s3 := by unfold thenOf; rw [show ((q : Int)).toNat = q from rfl, List.getElem?_eq_getElem (by omega), hl0]; rfl
              have hb3 : okB ss (q + 1) s3 := by rw [← hT3]; exact (OA.out q (by omega)).1
              have hc3 := cntB_at ss q (by omega)
              rw [hT3] at hc3
              have hc4 := cntB_mono ss (i := 0) (j := q) (by omega)
              have LO := ord_len OA.out hb3 (by have := hUE.out; omega) (ss.length + 1)
              have HB3 := Lib.hid hb3
              have HW := Lib.hid hW0
              have p0 := below_cell hb f80
              have p1 := below_cell hb f81
              have p2 := below_cell hb f82
              have p3 := below_cell hb f83
              clear hl0 hW0 hT3 hb3 hc3 hc4
              by_cases h8 : y0 = 8
              rotate_left
              · have hy2 := Lib.hid (fun hn => hok.out hn (by rw [HW.out]; simp [h8]))
                have hd8 : (y0 == 8) = false := by simpa using h8
                clear h8
                go_wp2_with fail
                go_roundw
                case rel => exact ⟨q + 1, by omega, by go_num, hy2.out, by exact belA⟩
                case measure => simp [intOf]; omega
              subst h8
              by_cases hnk : n7 = k
              rotate_left
              · have hdn : ((n7 : Int) == (k : Int)) = false := by simp; omega
                have hy2 := Lib.hid (fun hn : n7 = k => show (ss.take (q + 1)).all (whileB ss) = true from absurd hn hnk)
                clear hnk
                go_wp2_with fail
                go_roundw
                case rel => exact ⟨q + 1, by omega, by go_num, hy2.out, by exact belA⟩
                case measure => simp [intOf]; omega
              have hnk' := hnk.symm
              clear hnk
              subst hnk'
              have h' := h.below hxr hh
              have hq4 := h3.lenEq
              go_wp2_with fail
              go_region_held3 (fun W => W.cell? ⟨w.heap.size, 0, none⟩ = some (.int .i64 x0) ∧ W.cell? ⟨w.heap.size, 1, none⟩ = some (.int .i64 x1) ∧ W.cell? ⟨w.heap.size, 2, none⟩ = some (.slice A2 n2 c2) ∧ W.cell? ⟨w.heap.size, 3, none⟩ = some (.slice (some ⟨bb, oo, none⟩) k c3) ∧ W.cell? ⟨bb, oo + q * 5 + 3, none⟩ = some (.slice A3' n3' c3'))
                (first | exact ⟨p0, p1, p2, p3, d3⟩ | exact ⟨below_cell hx9 p0, below_cell hx9 p1, below_cell hx9 p2, below_cell hx9 p3, below_cell hx9 d3⟩ | (refine ⟨?_, ?_, ?_, ?_, ?_⟩ <;> (refine (below_cell (w := wr) (show Below wr.heap.size wr _ by exact belA) ?_); assumption)))
                ((go_at_call 109; ((with_reducible refine (implOrderNil ss.length _ lo hi lo hi x0 x1 _ _ k c3 ss A3' n3' c3' s3 (q + 1) (h'.below (show Below wr.heap.size wr _ by exact belA) (by omega)) (h3.below (show Below wr.heap.size wr _ by exact belA) (by omega)) (Nat.le_trans (show hi ≤ wr.heap.size by omega) (show Below wr.heap.size wr _ by exact belA).size) (Nat.le_trans (show hi ≤ wr.heap.size by omega) (show Below wr.heap.size wr _ by exact belA).size) OA.out HB3.out (by omega) (by omega) (by omega)).mono ?_); rintro e w9 ⟨F9, A9, n9, c9, rfl, ho9, hF9, hb9⟩; have hx9 : Below wr.heap.size wr w9 := (by exact belA))))
              have hO9 := ho9.sl
              have l9 := hO9.lenEq
              have l9' := hO9.lenLe
              have hmm := Lib.hid (ordF_mem OA.out (ss.length + 1) (q + 1) s3 HB3.out)
              have p3 := below_cell hx9 p3
              clear ho9 hF9 LO hb9
              generalize hord9 : ordF ss (ss.length + 1) s3 = ord9 at hO9 l9 hmm
              have hordH9 := Lib.hid (show ordA ss s3 = ord9 from hord9)
              clear hord9
              have hz9 := hx9.size
              go_wp2_with fail
              go_loopw [121] (fun i wq => ∃ t : Nat, t ≤ n9 ∧ i = .int .i64 t ∧ ((ord9.take t).all fun n => !(kindOf ss n == 3)) = true ∧ Below w9.heap.size w9 wq) (fun i _ => n9 - (intOf i).toNat)
              case atStart => exact ⟨0, Nat.zero_le _, rfl, rfl, Below.refl _ _⟩
              case round =>
                obtain ⟨t, ht', rfl, hal0, hbq⟩ := hrel
                have hal := Lib.hid hal0
                clear hal0
                by_cases hql : t < n9
                · obtain ⟨b', o', rfl, _, _, hc3, _⟩ := (hO9.below hbq (Nat.le_refl _)).int_at hql
                  have hxin := hmm.out (ord9[t]'(by omega)) (List.getElem_mem _)
                  have hok7 := Lib.hid (fun (hp : (!(kindOf ss (ord9[t]'(by omega)) == 3)) = true) => all_take_succ (p := fun n => !(kindOf ss n == 3)) hal.out (by omega) hp)
                  have hno7 := Lib.hid (fun (hp : (!(kindOf ss (ord9[t]'(by omega)) == 3)) = false) => all_false (p := fun n => !(kindOf ss n == 3)) (l := ord9) (k := t) (by omega) hp)
                  generalize ord9[t]'(by omega) = x at hc3 hxin hok7 hno7
                  obtain ⟨j, rfl⟩ := Int.eq_ofNat_of_zero_le (show 0 ≤ x by omega)
                  have hjk : j < k := by omega
                  obtain ⟨b9, o9, e9, _, _, hk9⟩ := kind_at (h.below (below_then hxr (below_then hx9 hbq)) hh) hjk
                  injection e9 with e9
                  injection e9 with e91 e92
                  subst e91 e92
                  have fq3 := below_cell hbq p3
                  generalize hkk : kindOf ss (j : Int) = kk at hk9 hok7 hno7
                  clear hkk
                  by_cases h3k : kk = 3
                  · subst h3k
                    have hn2 := Lib.hid (hno.out (by rw [HW.out, hordH9.out, hno7.out (by rfl)]; rfl))
                    go_wp2_with fail
                    go_ret
                    exact RetB.mk (by rw [hF2.out, hn2.out, Bool.and_false]) (below_then hxr (below_then hx9 hbq))
                  · have hy7 := Lib.hid (hok7.out (by simpa using h3k))
                    have hd3' : (kk == 3) = false := by simpa using h3k
                    clear h3k
                    go_wp2_with fail
                    go_roundw
                    case rel => exact ⟨t + 1, by omega, by go_num, hy7.out, hbq⟩
                    case measure => simp [intOf]; omega
                · have hal1 := hal.out
                  rw [List.take_of_length_le (by omega)] at hal1
                  have hy2 := Lib.hid (hok.out (by first | rfl | trivial) (by rw [HW.out, hordH9.out, hal1]; simp))
                  clear hal1
                  go_wp2_with fail
                  go_roundw
                  case rel => exact ⟨q + 1, by omega, by go_num, fun _ => hy2.out, below_then hb (below_then hx9 hbq)⟩
                  case measure => simp [intOf]; omega
            · obtain rfl : q = k := by omega
              have p3 := below_cell hb f83
              have hfin := Lib.hid (show shapeI x0 x1 body ss = decide (n7 = q) by
                rw [hF2.out, hLN.out, E1.out]
                by_cases hn : n7 = q
                · have := ht.out hn; rw [List.take_of_length_le (by rw [E1.out]; exact Nat.le_refl _)] at this; rw [this, Bool.and_true]
                · rw [decide_eq_false hn, Bool.false_and])
              by_cases hn : n7 = q
              · have hd9 : ((n7 : Int) == (q : Int)) = true := by simp; omega
                have hv := Lib.hid (decide_eq_true hn)
                clear hn
                go_wp2_with fail
                go_ret
                exact RetB.mk (by rw [hfin.out, hv.out]) hxr
              · have hd9 : ((n7 : Int) == (q : Int)) = false := by simp; omega
                have hv := Lib.hid (decide_eq_false hn)
                clear hn
                go_wp2_with fail
                go_ret
                exact RetB.mk (by rw [hfin.out, hv.out]) hxr
end Go.Proofs.Ytgoinmdnpaknpaa
