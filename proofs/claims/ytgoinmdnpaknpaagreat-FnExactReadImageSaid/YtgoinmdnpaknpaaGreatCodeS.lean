/- Whether a code is good: the reference's walk. -/
import Derived.Test.YtgoinmdnpaknpaaGreatCodeI
import Derived.Test.YtgoinmdnpaknpaaGreatHeightS
set_option linter.unusedVariables false
set_option linter.unusedSimpArgs false
set_option maxRecDepth 100000
namespace Go.Proofs.YtgoinmdnpaknpaaGreat
open Go.RowKit
theorem endOf_ge {rows : List Row} {m : Int} (h : rowsB rows m = true) : ∀ k, k ≤ rows.length → 0 ≤ endOf (rows.take k)
  | 0, _ => by rw [endOf_0]; omega
  | k + 1, hk => by
    have ih := endOf_ge h k (by omega)
    have h1 := List.all_eq_true.1 h k (List.mem_range.2 (by omega))
    rw [rowAt_eq (by omega) rfl] at h1
    unfold rowOk at h1
    simp only [Bool.and_eq_true, decide_eq_true_eq] at h1
    rw [endOf_succ (show k < rows.length by omega) rfl]
    omega
theorem row_to {rows : List Row} {m : Int} (h : rowsB rows m = true) : ∀ r, r ∈ rows → 0 ≤ r.2.1 := by
  intro r hr
  obtain ⟨k, hk, rfl⟩ := List.getElem_of_mem hr
  have := endOf_ge h (k + 1) (by omega)
  rwa [endOf_succ hk rfl] at this
set_option maxHeartbeats 4000000 in
theorem specL5SitesGood (w : World) (lo hi : Nat) (A : Option Addr) (n c : Nat) (x : List Code) (x0 x1 : Int) (A2 A3 A4 : Option Addr) (n2 c2 n3 c3 n4 c4 : Nat) (s2 : List Int) (hx : Sl CodeR w lo hi A n c x) (h2 : Sl intR w lo hi A2 n2 c2 s2) (hh : hi ≤ w.heap.size) :
    Calls Tryz.prog 52 #[.agg #[.slice A n c], .agg #[.int .i64 x0, .int .i64 x1, .slice A2 n2 c2, .slice A3 n3 c3, .slice A4 n4 c4]] w (RetB (s2.all (siteB x)) w) := by
  have HL := Lib.hid hx.lenEq
  have L2 := Lib.hid h2.lenEq
  have b1 := hx.lenLe
  have b2 := h2.lenLe
  have qw : IntKind.i64.wrap ((n : Int) - 1) = (n : Int) - 1 := IntWalk.i64_in _ (by omega)
  go_enter Tryz.func52, Tryz.ntmps52
  go_wp2_with fail
  obtain ⟨W, hW⟩ : ∃ W, W = (w.alloc (.cells #[.slice A n c] 24)).alloc (.cells #[.int .i64 x0, .int .i64 x1, .slice A2 n2 c2, .slice A3 n3 c3, .slice A4 n4 c4] 39) := ⟨_, rfl⟩
  have hbW : Below w.heap.size w W := by rw [hW]; exact belA
  have hzW0 : W.heap.size = w.heap.size + 2 := by rw [hW]; simp
  have kx := Lib.hid (show W.cell? ⟨w.heap.size, 0, none⟩ = some (.slice A n c) by rw [hW]; simp [go_sem])
  rw [← hW]
  have hzW : w.heap.size < W.heap.size := by omega
  clear hW hzW0
  go_loopw [10] (fun i wr => ∃ k : Nat, k ≤ n2 ∧ i = .int .i64 k ∧ (s2.take k).all (siteB x) = true ∧ Below W.heap.size W wr) (fun i _ => n2 - (intOf i).toNat)
  case atStart => exact ⟨0, Nat.zero_le _, rfl, rfl, Below.refl _ _⟩
  case round =>
    obtain ⟨k, hk, rfl, ht0, hb⟩ := hrel
    have ht := Lib.hid ht0
    clear ht0
    have hbw := below_then hbW hb
    have hbz := hb.size
    by_cases hlt : k < n2
    · obtain ⟨b, o, rfl, _, _, hc1, is⟩ := (h2.below hbw hh).int_at hlt
      have hkl : k < s2.length := by have := L2.out; omega
      have hok0 := fun (hp : siteB x s2[k] = true) => all_take_succ (p := siteB x) ht.out hkl hp
      have hno0 := fun (hp : siteB x s2[k] = false) => all_false (p := siteB x) hkl hp
      generalize s2[k] = s at hc1 hok0 hno0 is
      have hok := Lib.hid hok0
      have hno := Lib.hid hno0
      have q0 := below_cell hb kx.out
      clear hok0 hno0
      cases hin : inB s 0 ((n : Int) - 1)
      · have hs := Lib.hid (hno.out (siteB_no (by rw [HL.out]; exact hin)))
        go_wp2_with (go_at_call 49; ((with_reducible refine (specL1In _ _ _ _).mono ?_); rintro e w2 ⟨rfl, rfl⟩))
        go_ret
        exact RetB.mk hs.out.symm (below_then hbW hb)
      · have hbd := inB_iff.1 hin
        obtain ⟨j, rfl⟩ := Int.eq_ofNat_of_zero_le hbd.1
        have hj : j < n := by omega
        obtain ⟨bx, off, z0, z1, _, _, _, _, _, _, _, _, _, _, _, _, rfl, _, _, hl, _, _, _, _, _, d0, _, _, _, _⟩ := Code_at (hx.below hbw hh) hj
        have hq := siteB_yes (show j < x.length by have := HL.out; omega) hl
        clear hbd hl
        by_cases hz0 : z0 = 0
        · subst hz0
          have hs := Lib.hid (hok.out (by rw [hq]; rfl))
          clear hq
          go_wp2_with (go_at_call 49; ((with_reducible refine (specL1In _ _ _ _).mono ?_); rintro e w2 ⟨rfl, rfl⟩))
          go_roundw
          case rel => exact ⟨k + 1, by omega, by go_num, hs.out, hb⟩
          case measure => simp [intOf]; omega
        · have hs := Lib.hid (hno.out (by rw [hq]; simpa using hz0))
          have hd : (z0 == 0) = false := by simpa using hz0
          have hd2 : (z0 != 0) = true := by simpa using hz0
          clear hq
          go_wp2_with (go_at_call 49; ((with_reducible refine (specL1In _ _ _ _).mono ?_); rintro e w2 ⟨rfl, rfl⟩))
          go_ret
          exact RetB.mk hs.out.symm (below_then hbW hb)
    · have hs := Lib.hid (show s2.all (siteB x) = true by have := ht.out; rwa [List.take_of_length_le (by have := L2.out; omega)] at this)
      go_wp2_with fail
      go_ret
      exact RetB.mk hs.out.symm (below_then hbW hb)
set_option maxHeartbeats 16000000 in
theorem specL5Code (w : World) (lo hi : Nat) (A : Option Addr) (n c : Nat) (x : List Code) (x0 x1 : Int) (A2 A3 A4 : Option Addr) (n2 c2 n3 c3 n4 c4 : Nat) (s2 : List Int) (I : List Ins) (rows : List Row) (hx : Sl CodeR w lo hi A n c x) (h2 : Sl intR w lo hi A2 n2 c2 s2) (h3 : Sl InsR w lo hi A3 n3 c3 I) (h4 : Sl RowR w lo hi A4 n4 c4 rows) (hh : hi ≤ w.heap.size) (hz : ∀ c, c ∈ x → codeSz c = true) (hzc : codeSz (x0, x1, s2, I, rows) = true) :
    Calls Tryz.prog 25 #[.agg #[.slice A n c], .agg #[.int .i64 x0, .int .i64 x1, .slice A2 n2 c2, .slice A3 n3 c3, .slice A4 n4 c4]] w (RetV (.int .i64 (codeF x (x0, x1, s2, I, rows))) w) := by
  have HL := Lib.hid hx.lenEq
  have hp : ∀ c, c ∈ x → 0 ≤ c.1 ∧ c.1 ≤ 2 := fun c hc => (codeSz_all (hz c hc)).1
  obtain ⟨_, _, zs, zi, zr, zall⟩ := codeSz_all hzc
  simp only at zs zi zr zall
  rw [h2.lenEq] at zs
  rw [h3.lenEq] at zi
  rw [h4.lenEq] at zr
  obtain ⟨zi1, zi2⟩ := zi
  have HP := Lib.hid hp
  have HAL := Lib.hid zall
  have L2 := Lib.hid h2.lenEq
  have L3 := Lib.hid h3.lenEq
  have L4 := Lib.hid h4.lenEq
  have HN : Hid (namedB x (x0, x1, s2, I, rows) = I.all (namedI x1 n2 n)) := Lib.hid (by unfold namedB; simp only; rw [h2.lenEq, hx.lenEq])
  clear hz hp hzc zall
  go_enter Tryz.func25, Tryz.ntmps25
  go_upto_region 1 with (fail)
  obtain ⟨W, hW⟩ : ∃ W, W = (w.alloc (.cells #[.slice A n c] 24)).alloc (.cells #[.int .i64 x0, .int .i64 x1, .slice A2 n2 c2, .slice A3 n3 c3, .slice A4 n4 c4] 39) := ⟨_, rfl⟩
  have hbW : Below w.heap.size w W := by rw [hW]; exact belA
  have hzW0 : W.heap.size = w.heap.size + 2 := by rw [hW]; simp
  have kx := Lib.hid (show W.cell? ⟨w.heap.size, 0, none⟩ = some (.slice A n c) by rw [hW]; simp [go_sem])
  have kc := Lib.hid (show W.cell? ⟨w.heap.size + 1, 0, none⟩ = some (.int .i64 x0) ∧ W.cell? ⟨w.heap.size + 1, 1, none⟩ = some (.int .i64 x1) ∧ W.cell? ⟨w.heap.size + 1, 2, none⟩ = some (.slice A2 n2 c2) ∧ W.cell? ⟨w.heap.size + 1, 3, none⟩ = some (.slice A3 n3 c3) ∧ W.cell? ⟨w.heap.size + 1, 4, none⟩ = some (.slice A4 n4 c4) by rw [hW]; simp [go_sem])
  rw [← hW]
  have hhW : hi ≤ W.heap.size := by omega
  have hzW : w.heap.size + 1 < W.heap.size := by omega
  have hzW2 : w.heap.size < W.heap.size := by omega
  clear hW hzW0
  replace hx := hx.below hbW hh
  replace h2 := h2.below hbW hh
  replace h3 := h3.below hbW hh
  replace h4 := h4.below hbW hh
  have kx0 := kx.out
  obtain ⟨kc0, kc1, kc2, kc3, kc4⟩ := kc.out
  generalize hN0 : namedB x (x0, x1, s2, I, rows) = bN
  have hN1 := Lib.hid hN0
  have hN2 := Lib.hid (HN.out.symm.trans hN0)
  clear hN0
  go_wp2_with fail
  refine (specL5Named _ lo hi A n c x x0 x1 A2 A3 A4 n2 c2 n3 c3 n4 c4 I h3 (by first | omega | (simp; done) | (simp; omega))).mono ?_
  rintro e w2 ⟨rfl, hb2⟩
  rw [hN2.out]
  have hx2 : Below W.heap.size W w2 := by exact belA
  cases bN
  · have hc := Lib.hid (codeF_1 (x := x) (c := (x0, x1, s2, I, rows)) hN1.out)
    clear hb2
    go_wp2_with fail
    go_ret
    exact ⟨by rw [hc.out]; rfl, (below_then hbW (by exact belA))⟩
  replace hx := hx.below hx2 hhW
  replace h2 := h2.below hx2 hhW
  replace h3 := h3.below hx2 hhW
  replace h4 := h4.below hx2 hhW
  replace kx0 := below_cell hx2 kx0
  replace kc0 := below_cell hx2 kc0
  replace kc1 := below_cell hx2 kc1
  replace kc2 := below_cell hx2 kc2
  replace kc3 := below_cell hx2 kc3
  replace kc4 := below_cell hx2 kc4
  have hz2 := hx2.size
  generalize hS0 : s2.all (siteB x) = bS
  have hS1 := Lib.hid hS0
  clear hS0 hb2
  go_wp2_with fail
  refine (specL5SitesGood _ lo hi A n c x x0 x1 A2 A3 A4 n2 c2 n3 c3 n4 c4 s2 hx h2 (by omega)).mono ?_
  rintro e w3 ⟨rfl, hb3⟩
  rw [hS1.out]
  have hx3 : Below w2.heap.size w2 w3 := by exact belA
  have hW3 : Below W.heap.size W w3 := below_then hx2 hx3
  have hz3 := hx3.size
  replace hx := hx.below hx3 (by omega)
  replace h2 := h2.below hx3 (by omega)
  replace h3 := h3.below hx3 (by omega)
  replace h4 := h4.below hx3 (by omega)
  replace kx0 := below_cell hx3 kx0
  replace kc0 := below_cell hx3 kc0
  replace kc1 := below_cell hx3 kc1
  replace kc2 := below_cell hx3 kc2
  replace kc3 := below_cell hx3 kc3
  replace kc4 := below_cell hx3 kc4
  clear hb3
  cases bS
  · have hc := Lib.hid (codeF_2 (x := x) (c := (x0, x1, s2, I, rows)) hN1.out hS1.out)
    go_wp2_with fail
    go_ret
    exact ⟨by rw [hc.out]; rfl, (below_then hbW (below_then hW3 (show Below w3.heap.size w3 _ by exact belA)))⟩
  generalize hG0 : goesB I = bG
  have hG1 := Lib.hid hG0
  clear hG0
  go_wp2_with fail
  refine (specL5Goes _ lo hi x0 x1 (.slice A2 n2 c2) (.slice A4 n4 c4) A3 n3 c3 A2 A4 n2 c2 n4 c4 I h3 (by omega) (by omega)).mono ?_
  rintro e w4 ⟨rfl, hb4⟩
  rw [hG1.out]
  have hx4 : Below w3.heap.size w3 w4 := by exact belA
  have hW4 : Below W.heap.size W w4 := below_then hW3 hx4
  have hz4 := hx4.size
  replace hx := hx.below hx4 (by omega)
  replace h2 := h2.below hx4 (by omega)
  replace h3 := h3.below hx4 (by omega)
  replace h4 := h4.below hx4 (by omega)
  replace kx0 := below_cell hx4 kx0
  replace kc0 := below_cell hx4 kc0
  replace kc1 := below_cell hx4 kc1
  replace kc2 := below_cell hx4 kc2
  replace kc3 := below_cell hx4 kc3
  replace kc4 := below_cell hx4 kc4
  clear hb4
  cases bG
  · have hc := Lib.hid (codeF_3 (x := x) (c := (x0, x1, s2, I, rows)) hN1.out hS1.out hG1.out)
    go_wp2_with fail
    go_ret
    exact ⟨by rw [hc.out]; rfl, (below_then hbW (below_then hW4 (show Below w4.heap.size w4 _ by exact belA)))⟩
  generalize hR0 : rowsB rows (n3 : Int) = bR
  have hR1 := Lib.hid hR0
  have hR2 : Hid (rowsB rows I.length = bR) := Lib.hid (by rw [L3.out]; exact hR0)
  clear hR0
  go_wp2_with fail
  refine (specL5Rows _ lo hi A4 n4 c4 rows n3 h4 (by omega) (by omega)).mono ?_
  rintro e w5 ⟨rfl, hb5⟩
  rw [hR1.out]
  have hx5 : Below w4.heap.size w4 w5 := by exact belA
  have hW5 : Below W.heap.size W w5 := below_then hW4 hx5
  have hz5 := hx5.size
  replace hx := hx.below hx5 (by omega)
  replace h2 := h2.below hx5 (by omega)
  replace h3 := h3.below hx5 (by omega)
  replace h4 := h4.below hx5 (by omega)
  replace kx0 := below_cell hx5 kx0
  replace kc0 := below_cell hx5 kc0
  replace kc1 := below_cell hx5 kc1
  replace kc2 := below_cell hx5 kc2
  replace kc3 := below_cell hx5 kc3
  replace kc4 := below_cell hx5 kc4
  clear hb5
  cases bR
  · have hc := Lib.hid (codeF_4 (x := x) (c := (x0, x1, s2, I, rows)) hN1.out hS1.out hG1.out hR2.out)
    go_wp2_with fail
    go_ret
    exact ⟨by rw [hc.out]; rfl, (below_then hbW (below_then hW5 (show Below w5.heap.size w5 _ by exact belA)))⟩
  have hcH := Lib.hid (codeF_h (x := x) (c := (x0, x1, s2, I, rows)) hN1.out hS1.out hG1.out hR2.out)
  generalize hH0 : heightsF x I rows = oH
  have hH1 := Lib.hid hH0
  clear hH0
  go_wp2_with fail
  refine (specL5Heights _ lo hi A n c x x0 x1 A2 A3 A4 n2 c2 n3 c3 n4 c4 I rows hx h3 h4 (by omega) zi1 zi2 HP.out (fun i hi h7 => by have := named_7 hN1.out HAL.out i hi h7; have := HL.out; omega) hG1.out hR1.out).mono ?_
  rintro e w6 ⟨AH, mH, cH, rfl, rH, hb6⟩
  rw [hH1.out] at rH ⊢
  have hx6 : Below w5.heap.size w5 w6 := by exact belA
  have hW6 : Below W.heap.size W w6 := below_then hW5 hx6
  have hz6 := hx6.size
  replace hx := hx.below hx6 (by omega)
  replace h2 := h2.below hx6 (by omega)
  replace h3 := h3.below hx6 (by omega)
  replace h4 := h4.below hx6 (by omega)
  replace kx0 := below_cell hx6 kx0
  replace kc0 := below_cell hx6 kc0
  replace kc1 := below_cell hx6 kc1
  replace kc2 := below_cell hx6 kc2
  replace kc3 := below_cell hx6 kc3
  replace kc4 := below_cell hx6 kc4
  clear hb6
  cases oH with
  | none =>
    have hc := Lib.hid (show codeF x (x0, x1, s2, I, rows) = 5 by rw [hcH.out]; simp only [hH1.out])
    go_wp2_with fail
    go_ret
    exact ⟨by rw [hc.out]; rfl, (below_then hbW (below_then hW6 (show Below w6.heap.size w6 _ by exact belA)))⟩
  | some l =>
    obtain ⟨hll, hlg, hl40⟩ := heights_ok hH1.out
    simp only [Option.getD_some] at rH
    have hmn : n3 = mH := by have := rH.len; have := L3.out; omega
    subst hmn
    obtain ⟨gh, rfl⟩ := rH.blk (by omega)
    have HLL := Lib.hid hll
    have HTO := Lib.hid (row_to hR1.out)
    have HCF : Hid (codeF x (x0, x1, s2, I, rows) = if (List.range I.length).any (bad6 I rows l) = true then 6 else if (List.range I.length).any (bad7 I l) = true then 7 else 0) := Lib.hid (by rw [hcH.out]; simp only [hH1.out])
    clear hll hlg hl40
    have hrb := (World.ownsRow.lt rH gh rfl).2
    go_wp2_with fail
    go_loopw [46] (fun i wr => ∃ k : Nat, k ≤ n3 ∧ i = .int .i64 k ∧ (List.range k).any (bad6 I rows l) = false ∧ Below w6.heap.size w6 wr) (fun i _ => n3 - (intOf i).toNat)
    case atStart => exact ⟨0, Nat.zero_le _, rfl, rfl, Below.refl _ _⟩
    case round =>
      obtain ⟨k, hk, rfl, ht0, hb⟩ := hrel
      have ht := Lib.hid ht0
      clear ht0
      have hbz := hb.size
      have q4 := below_cell hb kc4
      have hz1 : w.heap.size + 1 < wr.heap.size := World.block_lt_of_cell? wr _ q4
      by_cases hlt : k < n3
      · obtain ⟨bi, oi, o', k', rfl, _, _, hl0, i0', i1', f0, f1⟩ := Ins_at (h3.below hb (by omega)) hlt
        have hqI : k < I.length := by have := L3.out; omega
        have HI := Lib.hid (insAt_nat hqI hl0)
        have hkl : k < l.length := by have := HLL.out; omega
        obtain ⟨v, kv, hv0⟩ : ∃ v, wr.cell? ⟨gh, k, none⟩ = some (.int .i64 v) ∧ hv l (k : Int) = v := ⟨_, below_cell hb (rH.at_ hkl), hv_get hkl⟩
        have HV := Lib.hid hv0
        have hgl : gh < wr.heap.size := by omega
        have hok := Lib.hid (fun (hp : bad6 I rows l k = false) => range_any_succ ht.out hp)
        have hno := Lib.hid (fun (hp : bad6 I rows l k = true) => show codeF x (x0, x1, s2, I, rows) = 6 by rw [HCF.out, if_pos (range_any_true hqI hp)])
        have hfb : bi < wr.heap.size := World.block_lt_of_cell? wr _ f0
        clear hl0 hv0
        go_wp2_with fail
        refine (specL5RowAt _ lo hi A4 n4 c4 rows (k : Int) ((h4.below hb (by omega)).below (show Below wr.heap.size wr _ by exact belA) (by omega)) (by first | omega | (simp; done) | (simp; omega)) HTO.out).mono ?_
        rintro e w7 ⟨rfl, hb7⟩
        have hx7 : Below wr.heap.size wr w7 := by exact belA
        obtain ⟨hcE, hfE⟩ := bcell hb7
        have e0 : w7.cell? ⟨wr.heap.size, 0, none⟩ = some (.int .i64 o') := by simp [hcE, go_sem]
        have kv7 := below_cell hx7 kv
        have q47 := below_cell hx7 q4
        have hz7 := hx7.size
        have hzb : wr.heap.size < w7.heap.size := World.block_lt_of_cell? w7 _ e0
        have hb7' := below_then hb hx7
        obtain ⟨r, hr0⟩ : ∃ r, idxW (inRow (k : Int)) rows = r := ⟨_, rfl⟩
        have HRX := Lib.hid hr0
        rw [hr0]
        have hrg : -1 ≤ r := by rw [← hr0]; exact idxW_ge _ _
        clear hr0 hcE hfE hb7 q4 kv f0 f1
        by_cases hv1 : 0 ≤ v
        rotate_left
        · have hs := Lib.hid (hok.out (bad6_1 HV.out (by omega)))
          go_wp2_with fail
          go_roundw
          case rel => exact ⟨k + 1, by omega, by go_num, hs.out, below_then hb7' (by exact belA)⟩
          case measure => simp [intOf]; omega
        cases hra : raisesB o'
        · have hs := Lib.hid (hok.out (bad6_2 HI.out hra))
          go_wp2_with (go_at_call 57; ((with_reducible refine (specL5Raises _ _).mono ?_); rintro e w8 ⟨rfl, hb8⟩; have hx8 : Below w7.heap.size w7 w8 := (by exact belA)))
          go_roundw
          case rel => exact ⟨k + 1, by omega, by go_num, hs.out, below_then hb7' (by exact belA)⟩
          case measure => simp [intOf]; omega
        by_cases hr1 : r < 0
        · have hc := Lib.hid (hno.out (bad6_3 HV.out hv1 HI.out hra HRX.out hr1))
          go_wp2_with (go_at_call 57; ((with_reducible refine (specL5Raises _ _).mono ?_); rintro e w8 ⟨rfl, hb8⟩; have hx8 : Below w7.heap.size w7 w8 := (by exact belA)))
          go_ret
          exact ⟨by rw [hc.out]; rfl, (below_then hbW (below_then hW6 (below_then hb7' (show Below w7.heap.size w7 _ by exact belA))))⟩
        obtain ⟨rn, hrn⟩ := Int.eq_ofNat_of_zero_le (show 0 ≤ r by omega)
        subst hrn
        have hrl := idxW_lt HRX.out
        have hrn4 : rn < n4 := by have := L4.out; omega
        obtain ⟨br, or_, y0, y1, y2, rfl, _, _, hr0, _, _, _, g0, g1, g2⟩ := Row_at (h4.below hb7' (by omega)) hrn4
        have hq := bad6_4 HV.out hv1 HI.out hra HRX.out (padOf_at hrl hr0)
        have hpad := Lib.hid hq
        clear hr0 hq g0 g1
        by_cases hp1 : y2 ≤ (k : Int)
        · have hc := Lib.hid (hno.out (by rw [hpad.out]; simpa using hp1))
          go_wp2_with (go_at_call 57; ((with_reducible refine (specL5Raises _ _).mono ?_); rintro e w8 ⟨rfl, hb8⟩; have hx8 : Below w7.heap.size w7 w8 := (by exact belA); have kv8 := below_cell hx8 kv7; have q48 := below_cell hx8 q47; have g28 := below_cell hx8 g2))
          go_ret
          exact ⟨by rw [hc.out]; rfl, (below_then hbW (below_then hW6 (below_then hb7' (show Below w7.heap.size w7 _ by exact belA))))⟩
        · have hs := Lib.hid (hok.out (by rw [hpad.out]; simpa using hp1))
          have hp2 : decide (y2 ≤ (k : Int)) = false := by simpa using hp1
          go_wp2_with (go_at_call 57; ((with_reducible refine (specL5Raises _ _).mono ?_); rintro e w8 ⟨rfl, hb8⟩; have hx8 : Below w7.heap.size w7 w8 := (by exact belA); have kv8 := below_cell hx8 kv7; have q48 := below_cell hx8 q47; have g28 := below_cell hx8 g2))
          go_roundw
          case rel => exact ⟨k + 1, by omega, by go_num, hs.out, below_then hb7' (by exact belA)⟩
          case measure => simp [intOf]; omega
      · have hall := Lib.hid (show (List.range I.length).any (bad6 I rows l) = false by rw [L3.out, show n3 = k by omega]; exact ht.out)
        have q3 := below_cell hb kc3
        clear q4
        go_wp2_with fail
        go_loopw [83] (fun i wq => ∃ k : Nat, k ≤ n3 ∧ i = .int .i64 k ∧ (List.range k).any (bad7 I l) = false ∧ Below w6.heap.size w6 wq) (fun i _ => n3 - (intOf i).toNat)
        case atStart => exact ⟨0, Nat.zero_le _, rfl, rfl, hb⟩
        case round =>
          clear q3 hb hbz ht
          obtain ⟨k, hk, rfl, ht0, hb⟩ := hrel
          have ht := Lib.hid ht0
          clear ht0
          have hbz := hb.size
          by_cases hlt : k < n3
          · obtain ⟨bi, oi, o', k', rfl, _, _, hl0, i0', i1', f0, f1⟩ := Ins_at (h3.below hb (by omega)) hlt
            have hqI : k < I.length := by have := L3.out; omega
            have HI := Lib.hid (insAt_nat hqI hl0)
            have hkl : k < l.length := by have := HLL.out; omega
            obtain ⟨v, kv, hv0⟩ : ∃ v, wr.cell? ⟨gh, k, none⟩ = some (.int .i64 v) ∧ hv l (k : Int) = v := ⟨_, below_cell hb (rH.at_ hkl), hv_get hkl⟩
            have HV := Lib.hid hv0
            have hgl : gh < wr.heap.size := by omega
            have hok := Lib.hid (fun (hp : bad7 I l k = false) => range_any_succ ht.out hp)
            have hno := Lib.hid (fun (hp : bad7 I l k = true) => show codeF x (x0, x1, s2, I, rows) = 7 by rw [HCF.out, if_neg (by rw [hall.out]; simp), if_pos (range_any_true hqI hp)])
            have hfb : bi < wr.heap.size := World.block_lt_of_cell? wr _ f0
            clear hl0 hv0
            by_cases hf : o' = 18 ∨ o' = 16 ∨ o' = 14 ∨ o' = 17
            · by_cases hv1 : 0 < v
              · have hc := Lib.hid (hno.out (bad7_3 HV.out hv1 HI.out (by unfold flatB; simp; omega)))
                rcases hf with rfl | rfl | rfl | rfl
                all_goals
                  go_wp2_with fail
                  go_ret
                  exact ⟨by rw [hc.out]; rfl, (below_then hbW (below_then hW6 (by exact belA)))⟩
              · have hs := Lib.hid (hok.out (bad7_1 HV.out hv1))
                rcases hf with rfl | rfl | rfl | rfl
                all_goals
                  go_wp2_with fail
                  go_roundw
                  case rel => exact ⟨k + 1, by omega, by go_num, hs.out, by exact belA⟩
                  case measure => simp [intOf]; omega
            · have hs := Lib.hid (hok.out (bad7_2 HI.out (by unfold flatB; simp; omega)))
              have d18 : (o' == 18) = false := by simp; omega
              have d16 : (o' == 16) = false := by simp; omega
              have d14 : (o' == 14) = false := by simp; omega
              have d17 : (o' == 17) = false := by simp; omega
              clear hf
              go_wp2_with fail
              go_roundw
              case rel => exact ⟨k + 1, by omega, by go_num, hs.out, by exact belA⟩
              case measure => simp [intOf]; omega
          · have hc := Lib.hid (show codeF x (x0, x1, s2, I, rows) = 0 by
              rw [HCF.out, if_neg (by rw [hall.out]; simp), if_neg]
              rw [L3.out, show n3 = k by omega, ht.out]; simp)
            have hfin := (rH.below hb).mono (show w.heap.size ≤ _ by omega)
            go_wp2_with fail
            go_ret
            exact ⟨by rw [hc.out]; rfl, below_then hbW (below_then hW6 hb)⟩
end Go.Proofs.YtgoinmdnpaknpaaGreat
