/- The code of a statement, of a block: the program's walk. -/
import Derived.Test.YtgagbbhnifkclaaLowRun
import Derived.RegionTactic
import Derived.Deep.RegionLaw
import Derived.Deep.DeepCutAuto
import Derived.Deep.RegionHeld3
set_option linter.unusedVariables false
set_option linter.unusedSimpArgs false
set_option maxRecDepth 100000
namespace Go.Proofs.Ytgagbbhnifkclaa
open Go.RowKit
theorem implAddAt (w : World) (L : Nat) (c0 c1 c2 c3 c4 v : Value) (xs : List Ins) (op k : Int) (i : Nat) (h : LowSt w L c0 c1 c2 c3 c4 v xs) (hi : xs.length = i) (hl : i ≤ 1099511627776) :
    Calls Try.prog 178 #[.pointer (some ⟨L, 0, none⟩), .int .i64 op, .int .i64 k] w (RetLow L c0 c1 c2 c3 c4 v (xs ++ [(op, k)]) (.int .i64 i) w) := by
  subst hi; exact implAdd w L c0 c1 c2 c3 c4 v xs op k h hl
/-- What a block's call does (with so much fuel). -/
def LowBlk (f : Nat) : Prop := ∀ (w : World) (L : Nat) (c0 c1 c2 : Value) (A : Option Addr) (n c : Nat) (ss : List Stmt) (As : Option Addr) (ns cs : Nat) (Ab : Option Addr) (nb cb : Nat) (bl : List Int) (v : Value) (xs : List Ins) (lb a : Nat),
  Sl StmtR w 0 L A n c ss → Sl intR w 0 L As ns cs (sitesF ss) → Sl intR w 0 L Ab nb cb bl → LowSt w L c0 c1 c2 (.slice A n c) (.slice As ns cs) v xs → okAll ss → lowOk ss → okB ss lb bl → ss.length ≤ lb + f → ss.length ≤ 1048576 → xs.length = a → a + (codeB ss (f + 1) a bl).length ≤ 1073741824 →
  Calls Try.prog 177 #[.pointer (some ⟨L, 0, none⟩), .slice Ab nb cb] w (RetLow L c0 c1 c2 (.slice A n c) (.slice As ns cs) v (xs ++ codeB ss (f + 1) a bl) (.tuple #[]) w)
set_option maxHeartbeats 4000000 in
theorem implStmtC (f : Nat) (IH0 : LowBlk f) (w : World) (L : Nat) (c0 c1 c2 : Value) (A : Option Addr) (n c : Nat) (ss : List Stmt) (As : Option Addr) (ns cs : Nat) (v : Value) (xs : List Ins) (j a : Nat)
    (h : Sl StmtR w 0 L A n c ss) (hs : Sl intR w 0 L As ns cs (sitesF ss)) (hst : LowSt w L c0 c1 c2 (.slice A n c) (.slice As ns cs) v xs) (ha : okAll ss) (hlo : lowOk ss) (hj : j < n) (hf : ss.length ≤ j + 1 + f) (hn : n ≤ 1048576) (hx : xs.length = a) (hl : a + (stmtC ss (codeB ss (f + 1)) (j : Int) a).length ≤ 1073741824) :
    Calls Try.prog 220 #[.pointer (some ⟨L, 0, none⟩), .int .i64 j] w (RetLow L c0 c1 c2 (.slice A n c) (.slice As ns cs) v (xs ++ stmtC ss (codeB ss (f + 1)) (j : Int) a) (.tuple #[]) w) := by
  have e1 := h.lenEq
  have IH := Lib.hid IH0
  have hLw := hst.lt
  obtain ⟨A0, m0, q0, rfl, hm0⟩ := hst.row.form
  obtain rfl : m0 = a := by omega
  have HX := Lib.hid hx
  have hvL := Lib.hid hst.lt_own
  obtain ⟨b, o, y0, y1, A2, n2, c2', ex, A3, n3, c3', s3, A4, n4, c4', s4, rfl, hb1, hb2, hl0, i0, i1, h2, h3, h4, d0, d1, d2, d3, d4⟩ := Stmt_at h hj
  have hE := exOf_at (ss := ss) (k := j) (by omega)
  rw [hl0] at hE
  obtain ⟨E1, E2, E3, E4, E5⟩ := hE
  have hS := hlo _ (List.getElem_mem (by omega : j < ss.length))
  rw [hl0] at hS
  obtain ⟨⟨k1, k9⟩, hex0, hexl, hny, htk⟩ := hS
  have a12 := ha j (by omega)
  rw [E4, E5] at a12
  have HA := Lib.hid ha
  have HLO := Lib.hid hlo
  have HT : Hid (okB ss (j + 1) s3) := Lib.hid a12.1
  have HEl : Hid (okB ss (j + 1) s4) := Lib.hid a12.2
  have HTK : Hid (lowT ex) := Lib.hid htk
  have HX0 : Hid (y0 = 3 ∨ y0 = 6 → ex = []) := Lib.hid hex0
  have HE1 := Lib.hid E1
  have HE2 := Lib.hid E2
  have HE3 := Lib.hid E3
  have HE4 := Lib.hid E4
  have HE5 := Lib.hid E5
  have HSL := Lib.hid hs.lenEq
  have HZL := Lib.hid (show (xs ++ stmtC ss (codeB ss (f + 1)) (j : Int) m0).length ≤ 1073741824 by rw [List.length_append]; omega)
  generalize hzs : xs ++ stmtC ss (codeB ss (f + 1)) (j : Int) m0 = zs at HZL ⊢
  have HL := Lib.hid hl
  have HZ0 := Lib.hid hzs
  simp only at hny hexl
  clear a12 ha hlo htk hl0 E1 E2 E3 E4 E5 IH0 hzs hl hex0 hm0 hx
  have p3 := hst.p3
  have p5 := hst.p5
  have lex := h2.lenEq
  have hn2 : n2 ≤ 12 := by omega
  have hm30 : m0 ≤ 1073741824 := by have := HL.out; omega
  go_enter Try.func220, Try.ntmps220
  go_wp2_with fail
  obtain ⟨w1, hw1⟩ : ∃ w1, w1 = w.alloc (.cells #[.int .i64 y0, .int .i64 y1, .slice A2 n2 c2', .slice A3 n3 c3', .slice A4 n4 c4'] 154) := ⟨_, rfl⟩
  have x0 : w1.cell? ⟨w.heap.size, 0, none⟩ = some (.int .i64 y0) := by rw [hw1]; simp [go_sem]
  have x1 : w1.cell? ⟨w.heap.size, 1, none⟩ = some (.int .i64 y1) := by rw [hw1]; simp [go_sem]
  have x2 : w1.cell? ⟨w.heap.size, 2, none⟩ = some (.slice A2 n2 c2') := by rw [hw1]; simp [go_sem]
  have x3 : w1.cell? ⟨w.heap.size, 3, none⟩ = some (.slice A3 n3 c3') := by rw [hw1]; simp [go_sem]
  have x4 : w1.cell? ⟨w.heap.size, 4, none⟩ = some (.slice A4 n4 c4') := by rw [hw1]; simp [go_sem]
  have hb1 : Below w.heap.size w w1 := by rw [hw1]; (repeat (first | with_reducible exact Below.refl _ _ | with_reducible assumption | with_reducible refine below_alloc ?_ _ | ((with_reducible refine Below.setCell ?_ ?_ _); rotate_left; (· first | exact Nat.le_refl _ | (simp; done) | (simp; omega))) | with_reducible refine below_drewN ?_ _ | with_reducible refine Below.drew ?_ | with_reducible refine below_then ?_ (by with_reducible assumption)))
  have hB : w.heap.size < w1.heap.size := World.block_lt_of_cell? w1 _ x0
  have hst1 := hst.keep hb1
  have hs1 := hs.below hb1 (Nat.le_of_lt hLw)
  have h21 := h2.below hb1 (Nat.le_of_lt hLw)
  have h31 := h3.below hb1 (Nat.le_of_lt hLw)
  have h41 := h4.below hb1 (Nat.le_of_lt hLw)
  have h1 := h.below hb1 (Nat.le_of_lt hLw)
  have hL1 : L < w1.heap.size := hst1.lt
  have hnb : ¬ (Value.slice A0 m0 q0).ownBlock = some w.heap.size := fun e => by have := (hvL.out _ e).2; omega
  have hnL : ¬ w.heap.size = L := by omega
  have x5 := hst1.p5
  have xf := hst1.fz 5
  have hrow := hst1.row
  have hxl : xs.length ≤ 1073741824 := by have := HX.out; omega
  clear p3 p5 d0 d1 d2 d3 d4 lex
  rw [← hw1]
  have HW := Lib.hid hw1
  clear hw1
  go_cut [] from 22 to 33 (fun wx => ∃ vk, LowRun w1 L c0 c1 c2 (.slice (some ⟨b, o, none⟩) n c) (.slice As ns cs) (.slice A0 m0 q0) wx vk (xs ++ ex.map tokIns))
  case first =>
    go_region_law (first | ((refine step_appS _ (by rfl) _ _ (by rfl) (L + 1) (.slice A0 m0 q0) xs (by rfl) (hrow.below hx2) Ar nr cr (ex.map tokIns) (by rfl) or2.sl (by rw [List.length_map] at nr2; omega) (by omega) ?_); intro v3 w3 hown hgr hat; obtain ⟨A5, m5, q5, rfl, hm5⟩ := hown.form; have HM5 := Lib.hid hm5; clear hm5; have zz := hst1.mid hx2 hgr; have z5 := zz.1.2.2.2.2.2; have zf := zz.2 5) | (go_simp; go_at_call 253; ((with_reducible refine (implLowerExpr _ 0 L A2 n2 c2' ex (h21.below (show Below w1.heap.size w1 _ by (repeat (first | with_reducible exact Below.refl _ _ | with_reducible assumption | with_reducible refine below_alloc ?_ _ | ((with_reducible refine Below.setCell ?_ ?_ _); rotate_left; (· first | exact Nat.le_refl _ | (simp; done) | (simp; omega))) | with_reducible refine below_drewN ?_ _ | with_reducible refine Below.drew ?_ | with_reducible refine below_then ?_ (by with_reducible assumption)))) (Nat.le_of_lt hL1)) (by first | omega | (simp; omega)) (by omega) HTK.out).mono ?_); rintro e w2 ⟨F2, Ar, nr, cr, rfl, or2, fr2, hx⟩; have hx2 : Below w1.heap.size w1 w2 := (by (repeat (first | with_reducible exact Below.refl _ _ | with_reducible assumption | with_reducible refine below_alloc ?_ _ | ((with_reducible refine Below.setCell ?_ ?_ _); rotate_left; (· first | exact Nat.le_refl _ | (simp; done) | (simp; omega))) | with_reducible refine below_drewN ?_ _ | with_reducible refine Below.drew ?_ | with_reducible refine below_then ?_ (by with_reducible assumption)))); have nr2 := or2.sl.lenEq; have y5 := below_cell hx2 x5; have y2 := below_cell hx2 x2; have hz2 := hx2.size)))
    all_goals
      go_wp2_with fail
      go_meet
      case rel =>
        have hput := hst1.put hx2 hgr hown
        exact ⟨_, hput.1, hput.2, hat.imp id (fun e g hg => by rw [e] at hg; injection hg with hg; omega)⟩
  case rest =>
  obtain ⟨vk, hR⟩ := hcut
  have hvL2 : ∀ g, (Value.slice A0 m0 q0).ownBlock = some g → L < g := fun g hg => (hvL.out g hg).1
  have Hi1 := Lib.hid (show (xs ++ ex.map tokIns).length = m0 + ex.length by rw [List.length_append, List.length_map, HX.out])
  have hi1l : m0 + ex.length ≤ 1073741836 := by omega
  obtain ⟨i1, hi10⟩ : ∃ i : Nat, m0 + ex.length = i := ⟨_, rfl⟩
  rw [hi10] at Hi1 hi1l
  clear hi10 x5 xf hrow hb1 h2 h3 h4 h hst hs
  have hk : y0 = 1 ∨ y0 = 2 ∨ y0 = 3 ∨ y0 = 4 ∨ y0 = 5 ∨ y0 = 6 ∨ y0 = 7 ∨ y0 = 8 ∨ y0 = 9 := by omega
  rcases hk with rfl | rfl | rfl | rfl | rfl | rfl | rfl | rfl | rfl
  · have u0wc := hR.cell hnL hnb x0
    have u1wc := hR.cell hnL hnb x1
    have HZ := Lib.hid (show xs ++ (ex.map tokIns ++ [(3, y1)]) = zs by rw [← HZ0.out, stmtC_1 HE2.out HE1.out HE3.out])
    go_wp2_with fail
    refine (implAddAt _ L _ _ _ _ _ vk (xs ++ ex.map tokIns) 3 y1 i1 hR.st Hi1.out (by omega)).mono ?_
    rintro e w6 hr
    obtain ⟨v6, rfl, hR6⟩ := hR.step hr
    clear hr hR
    go_wp2_with fail
    refine bodyPost_ret (v := .tuple #[]) (by simp [results, Try.results220, go_sem]) rfl ?_
    have hfin := (hR6.eq (ys := zs) (by rw [List.append_assoc]; exact HZ.out)).ret (r := .tuple #[])
    rw [HW.out] at hfin
    exact hfin.up
  · have u0wc := hR.cell hnL hnb x0
    have HZ := Lib.hid (show xs ++ (ex.map tokIns ++ [(8, 0)]) = zs by rw [← HZ0.out, stmtC_2 HE2.out HE1.out])
    go_wp2_with fail
    refine (implAddAt _ L _ _ _ _ _ vk (xs ++ ex.map tokIns) 8 0 i1 hR.st Hi1.out (by omega)).mono ?_
    rintro e w6 hr
    obtain ⟨v6, rfl, hR6⟩ := hR.step hr
    clear hr hR
    go_wp2_with fail
    refine bodyPost_ret (v := .tuple #[]) (by simp [results, Try.results220, go_sem]) rfl ?_
    have hfin := (hR6.eq (ys := zs) (by rw [List.append_assoc]; exact HZ.out)).ret (r := .tuple #[])
    rw [HW.out] at hfin
    exact hfin.up
  · have u0wc := hR.cell hnL hnb x0
    obtain rfl := HX0.out (by omega)
    have HZ := Lib.hid (show xs ++ [(12, idxI (sitesF ss) (j : Int))] = zs by rw [← HZ0.out, stmtC_3 HE2.out])
    have u5 := hR.st.p4
    go_wp2_with fail
    refine (slicesIndexInt _ 0 L As ns cs (sitesF ss) (j : Int) (hR.sl (Nat.le_of_lt hL1) hvL2 hs1) (Nat.le_of_lt hR.st.lt) (by have := HSL.out; have := sitesF_len ss; omega)).mono ?_
    rintro e w5 ⟨rfl, hb5⟩
    generalize idxI (sitesF ss) (j : Int) = q at HZ
    have hR0 := hR.below hb5
    clear hR u5
    go_wp2_with fail
    refine (implAddAt _ L _ _ _ _ _ vk (xs ++ List.map tokIns []) 12 q i1 hR0.st Hi1.out (by omega)).mono ?_
    rintro e w6 hr
    obtain ⟨v6, rfl, hR6⟩ := hR0.step hr
    clear hr hR0
    go_wp2_with fail
    refine bodyPost_ret (v := .tuple #[]) (by simp [results, Try.results220, go_sem]) rfl ?_
    have hfin := (hR6.eq (ys := zs) (by rw [List.map_nil, List.append_nil]; exact HZ.out)).ret (r := .tuple #[])
    rw [HW.out] at hfin
    exact hfin.up
  · have u0wc := hR.cell hnL hnb x0
    have HZ := Lib.hid (show xs ++ (ex.map tokIns ++ [(13, 0)]) = zs by rw [← HZ0.out, stmtC_4 HE2.out HE1.out])
    go_wp2_with fail
    refine (implAddAt _ L _ _ _ _ _ vk (xs ++ ex.map tokIns) 13 0 i1 hR.st Hi1.out (by omega)).mono ?_
    rintro e w6 hr
    obtain ⟨v6, rfl, hR6⟩ := hR.step hr
    clear hr hR
    go_wp2_with fail
    refine bodyPost_ret (v := .tuple #[]) (by simp [results, Try.results220, go_sem]) rfl ?_
    have hfin := (hR6.eq (ys := zs) (by rw [List.append_assoc]; exact HZ.out)).ret (r := .tuple #[])
    rw [HW.out] at hfin
    exact hfin.up
  · have u0wc := hR.cell hnL hnb x0
    have HZ := Lib.hid (show xs ++ (ex.map tokIns ++ [(15, 0), (16, 0)]) = zs by rw [← HZ0.out, stmtC_5 HE2.out HE1.out])
    go_wp2_with fail
    refine (implAddAt _ L _ _ _ _ _ vk (xs ++ ex.map tokIns) 15 0 i1 hR.st Hi1.out (by omega)).mono ?_
    rintro e w6 hr
    obtain ⟨v6, rfl, hR6⟩ := hR.step hr
    clear hr hR
    have Hi2 := Lib.hid (show (xs ++ ex.map tokIns ++ [((15 : Int), (0 : Int))]).length = i1 + 1 by rw [List.length_append, Hi1.out]; rfl)
    obtain ⟨i2, hi2⟩ : ∃ i : Nat, i1 + 1 = i := ⟨_, rfl⟩
    have hi2l : i2 ≤ 1073741840 := by omega
    rw [hi2] at Hi2
    clear hi2
    go_wp2_with fail
    refine (implAddAt _ L _ _ _ _ _ v6 ((xs ++ ex.map tokIns) ++ [(15, 0)]) 16 0 i2 hR6.st Hi2.out (by omega)).mono ?_
    rintro e w7 hr
    obtain ⟨v7, rfl, hR7⟩ := hR6.step hr
    clear hr hR6
    go_wp2_with fail
    refine bodyPost_ret (v := .tuple #[]) (by simp [results, Try.results220, go_sem]) rfl ?_
    have hfin := (hR7.eq (ys := zs) (by rw [List.append_assoc, List.append_assoc]; exact HZ.out)).ret (r := .tuple #[])
    rw [HW.out] at hfin
    exact hfin.up
  · have u0wc := hR.cell hnL hnb x0
    obtain rfl := HX0.out (by omega)
    have HZ := Lib.hid (show xs ++ [(14, 0)] = zs by rw [← HZ0.out, stmtC_6 HE2.out])
    go_wp2_with fail
    refine (implAddAt _ L _ _ _ _ _ vk (xs ++ List.map tokIns []) 14 0 i1 hR.st Hi1.out (by omega)).mono ?_
    rintro e w6 hr
    obtain ⟨v6, rfl, hR6⟩ := hR.step hr
    clear hr hR
    go_wp2_with fail
    refine bodyPost_ret (v := .tuple #[]) (by simp [results, Try.results220, go_sem]) rfl ?_
    have hfin := (hR6.eq (ys := zs) (by rw [List.map_nil, List.append_nil]; exact HZ.out)).ret (r := .tuple #[])
    rw [HW.out] at hfin
    exact hfin.up
  · have u0wc := hR.cell hnL hnb x0
    have u3wc := hR.cell hnL hnb x3
    have u4wc := hR.cell hnL hnb x4
    obtain ⟨i2, hi2⟩ : ∃ i : Nat, m0 + ex.length + 1 = i := ⟨_, rfl⟩
    obtain ⟨T, hT⟩ : ∃ T, T = codeB ss (f + 1) i2 s3 := ⟨_, rfl⟩
    obtain ⟨i3, hi3⟩ : ∃ i : Nat, i2 + T.length = i := ⟨_, rfl⟩
    obtain ⟨i4, hi4⟩ : ∃ i : Nat, i3 + 1 = i := ⟨_, rfl⟩
    obtain ⟨Q, hQ⟩ : ∃ Q, Q = codeB ss (f + 1) i4 s4 := ⟨_, rfl⟩
    obtain ⟨i5, hi5⟩ : ∃ i : Nat, i4 + Q.length = i := ⟨_, rfl⟩
    have hz : zs = xs ++ (ex.map tokIns ++ ([(11, (i4 : Int))] ++ (T ++ ([(10, (i5 : Int))] ++ Q)))) := by rw [← HZ0.out, stmtC_7 HE2.out HE1.out HE4.out HE5.out hi2 (i4 := i4) (by rw [← hT]; omega) (i5 := i5) (by rw [← hQ]; omega), ← hT, ← hQ]
    have hzl : zs.length ≤ 1073741824 := HZL.out
    have hln : zs.length = i5 := by rw [hz]; simp only [List.length_append, List.length_cons, List.length_nil, List.length_map]; have := HX.out; omega
    have hi1 : i1 = m0 + ex.length := by have := Hi1.out; rw [List.length_append, List.length_map] at this; have := HX.out; omega
    have b4 : i4 ≤ 1073741824 := by omega
    have b3 : i3 < i4 := by omega
    have b2 : i2 ≤ i3 := by omega
    have b1 : i1 < i2 := by omega
    have b5 : i5 ≤ 1073741824 := by omega
    have b45 : i4 ≤ i5 := by omega
    have Hi2 := Lib.hid (show ((xs ++ ex.map tokIns) ++ [((11 : Int), (0 : Int))]).length = i2 by rw [List.length_append, Hi1.out, List.length_singleton]; omega)
    have Hi3 := Lib.hid (show ((xs ++ ex.map tokIns) ++ [((11 : Int), (0 : Int))] ++ T).length = i3 by rw [List.length_append, Hi2.out]; omega)
    have Hi4 : Hid (i4 = i1 + 1 + (T ++ [((10 : Int), (0 : Int))]).length) := Lib.hid (by rw [List.length_append, List.length_singleton]; omega)
    have bT : i2 + (codeB ss (f + 1) i2 s3).length ≤ 1073741824 := by rw [← hT]; omega
    have bQ : i4 + (codeB ss (f + 1) i4 s4).length ≤ 1073741824 := by rw [← hQ]; omega
    have Hi4b := Lib.hid (show ((xs ++ ex.map tokIns) ++ ([((11 : Int), (i4 : Int))] ++ (T ++ [((10 : Int), (0 : Int))]))).length = i4 by simp only [List.length_append, List.length_cons, List.length_nil, List.length_map]; have := HX.out; omega)
    have Hi3b := Lib.hid (show ((xs ++ ex.map tokIns) ++ ([((11 : Int), (i4 : Int))] ++ T)).length = i3 by simp only [List.length_append, List.length_cons, List.length_nil, List.length_map]; have := HX.out; omega)
    have Hi5 : Hid (i5 = i3 + 1 + Q.length) := Lib.hid (by omega)
    have HQ := Lib.hid hQ
    have HT0 := Lib.hid hT
    have HZ := Lib.hid hz
    clear hz hln hzl hi2 hT hi3 hi4 hi1 hQ hi5
    go_wp2_with fail
    refine (implAddAt _ L _ _ _ _ _ vk (xs ++ ex.map tokIns) 11 0 i1 hR.st Hi1.out (by omega)).mono ?_
    rintro e w6 hr
    obtain ⟨v6, rfl, hR6⟩ := hR.step hr
    clear hr hR
    have u3w6 := hR6.cell hnL hnb x3
    have u4w6 := hR6.cell hnL hnb x4
    go_wp2_with fail
    refine (IH.out _ L c0 c1 c2 (some ⟨b, o, none⟩) n c ss As ns cs A3 n3 c3' s3 v6 ((xs ++ ex.map tokIns) ++ [(11, 0)]) (j + 1) i2 (hR6.sl (Nat.le_of_lt hL1) hvL2 h1) (hR6.sl (Nat.le_of_lt hL1) hvL2 hs1) (hR6.sl (Nat.le_of_lt hL1) hvL2 h31) hR6.st HA.out HLO.out HT.out (by omega) (by omega) Hi2.out bT).mono ?_
    rintro e w7 hr
    obtain ⟨v7, rfl, hR7⟩ := hR6.step hr
    clear hr hR6
    rw [← HT0.out] at hR7
    have u4w7 := hR7.cell hnL hnb x4
    go_wp2_with fail
    refine (implAddAt _ L _ _ _ _ _ v7 (((xs ++ ex.map tokIns) ++ [(11, 0)]) ++ T) 10 0 i3 hR7.st Hi3.out (by omega)).mono ?_
    rintro e w8 hr
    obtain ⟨v8, rfl, hR8⟩ := hR7.step hr
    clear hr hR7
    have u4w8 := hR8.cell hnL hnb x4
    obtain ⟨Ap, np, cp, rfl, hnp⟩ := hR8.st.row.form
    clear hnp
    obtain ⟨g, rfl, hnp, hc, hfz, hp5, hnext⟩ := (hR8.eq (ys := (xs ++ ex.map tokIns) ++ ([((11 : Int), (0 : Int))] ++ (T ++ [((10 : Int), (0 : Int))]))) (by simp only [List.append_assoc])).at_ Hi1.out
    obtain rfl : i4 = np := by have := Hi4.out; omega
    clear hnp
    have hnx := hnext i4
    clear hnext
    go_wp2_with fail
    have gA : (0 : Int) ≤ (i1 : Int) := by omega
    have gB : (i1 : Int) < (i4 : Int) := by omega
    have gC : (i1 : Int) ≤ (i4 : Int) := by omega
    go_region_held3 (fun W => W.cell? ⟨L, 5, none⟩ = some (.slice (some ⟨g, 0, none⟩) i4 cp)) (first | exact hp5 | exact hnx.st.p5 | (go_keep; done)) (first | fail)
    have hR9 := hnx.drew
    clear hc hfz hp5 hR8 gA gB gC
    have u4p := hnx.cell hnL hnb x4
    clear hnx
    go_wp2_with fail
    refine (IH.out _ L c0 c1 c2 (some ⟨b, o, none⟩) n c ss As ns cs A4 n4 c4' s4 (.slice (some ⟨g, 0, none⟩) i4 cp) ((xs ++ ex.map tokIns) ++ ([((11 : Int), (i4 : Int))] ++ (T ++ [((10 : Int), (0 : Int))]))) (j + 1) i4 (hR9.sl (Nat.le_of_lt hL1) hvL2 h1) (hR9.sl (Nat.le_of_lt hL1) hvL2 hs1) (hR9.sl (Nat.le_of_lt hL1) hvL2 h41) hR9.st HA.out HLO.out HEl.out (by omega) (by omega) Hi4b.out bQ).mono ?_
    rintro e w10 hr
    obtain ⟨v10, rfl, hR10⟩ := hR9.step hr
    clear hr hR9
    rw [← HQ.out] at hR10
    obtain ⟨Ap, np, cp, rfl, hnp⟩ := hR10.st.row.form
    clear hnp
    obtain ⟨g, rfl, hnp, hc, hfz, hp5, hnext⟩ := (hR10.eq (ys := ((xs ++ ex.map tokIns) ++ ([((11 : Int), (i4 : Int))] ++ T)) ++ ([((10 : Int), (0 : Int))] ++ Q)) (by simp only [List.append_assoc])).at_ Hi3b.out
    obtain rfl : i5 = np := by have := Hi5.out; omega
    clear hnp
    have hnx := hnext i5
    clear hnext
    go_wp2_with fail
    have gA : (0 : Int) ≤ (i3 : Int) := by omega
    have gB : (i3 : Int) < (i5 : Int) := by omega
    have gC : (i3 : Int) ≤ (i5 : Int) := by omega
    go_region_held3 (fun W => W.cell? ⟨L, 5, none⟩ = some (.slice (some ⟨g, 0, none⟩) i5 cp)) (first | exact hp5 | exact hnx.st.p5 | (go_keep; done)) (first | fail)
    have hR11 := hnx.drew
    clear hc hfz hp5 hR10 gA gB gC
    go_wp2_with fail
    refine bodyPost_ret (v := .tuple #[]) (by simp [results, Try.results220, go_sem]) rfl ?_
    have hfin := (hR11.eq (ys := zs) (by rw [HZ.out]; simp only [List.append_assoc])).ret (r := .tuple #[])
    rw [HW.out] at hfin
    exact hfin.up
  · have u0wc := hR.cell hnL hnb x0
    have u3wc := hR.cell hnL hnb x3
    obtain ⟨i2, hi2⟩ : ∃ i : Nat, m0 + ex.length + 1 = i := ⟨_, rfl⟩
    obtain ⟨T, hT⟩ : ∃ T, T = codeB ss (f + 1) i2 s3 := ⟨_, rfl⟩
    obtain ⟨i3, hi3⟩ : ∃ i : Nat, i2 + T.length = i := ⟨_, rfl⟩
    obtain ⟨i4, hi4⟩ : ∃ i : Nat, i3 + 1 = i := ⟨_, rfl⟩
    have hz : zs = xs ++ (ex.map tokIns ++ ([(11, (i4 : Int))] ++ (T ++ [(10, (m0 : Int))]))) := by rw [← HZ0.out, stmtC_8 HE2.out HE1.out HE4.out hi2 (i4 := i4) (by rw [← hT]; omega), ← hT]
    have hzl : zs.length ≤ 1073741824 := HZL.out
    have hln : zs.length = i4 := by rw [hz]; simp only [List.length_append, List.length_cons, List.length_nil, List.length_map]; have := HX.out; omega
    have hi1 : i1 = m0 + ex.length := by have := Hi1.out; rw [List.length_append, List.length_map] at this; have := HX.out; omega
    have b4 : i4 ≤ 1073741824 := by omega
    have b3 : i3 < i4 := by omega
    have b2 : i2 ≤ i3 := by omega
    have b1 : i1 < i2 := by omega
    have Hi2 := Lib.hid (show ((xs ++ ex.map tokIns) ++ [((11 : Int), (0 : Int))]).length = i2 by rw [List.length_append, Hi1.out, List.length_singleton]; omega)
    have Hi3 := Lib.hid (show ((xs ++ ex.map tokIns) ++ [((11 : Int), (0 : Int))] ++ T).length = i3 by rw [List.length_append, Hi2.out]; omega)
    have Hi4 : Hid (i4 = i1 + 1 + (T ++ [((10 : Int), (m0 : Int))]).length) := Lib.hid (by rw [List.length_append, List.length_singleton]; omega)
    have bT : i2 + (codeB ss (f + 1) i2 s3).length ≤ 1073741824 := by rw [← hT]; omega
    have HT0 := Lib.hid hT
    have HZ := Lib.hid hz
    clear hz hln hzl hi2 hT hi3 hi4 hi1 
    go_wp2_with fail
    refine (implAddAt _ L _ _ _ _ _ vk (xs ++ ex.map tokIns) 11 0 i1 hR.st Hi1.out (by omega)).mono ?_
    rintro e w6 hr
    obtain ⟨v6, rfl, hR6⟩ := hR.step hr
    clear hr hR
    have u3w6 := hR6.cell hnL hnb x3
    go_wp2_with fail
    refine (IH.out _ L c0 c1 c2 (some ⟨b, o, none⟩) n c ss As ns cs A3 n3 c3' s3 v6 ((xs ++ ex.map tokIns) ++ [(11, 0)]) (j + 1) i2 (hR6.sl (Nat.le_of_lt hL1) hvL2 h1) (hR6.sl (Nat.le_of_lt hL1) hvL2 hs1) (hR6.sl (Nat.le_of_lt hL1) hvL2 h31) hR6.st HA.out HLO.out HT.out (by omega) (by omega) Hi2.out bT).mono ?_
    rintro e w7 hr
    obtain ⟨v7, rfl, hR7⟩ := hR6.step hr
    clear hr hR6
    rw [← HT0.out] at hR7
    go_wp2_with fail
    refine (implAddAt _ L _ _ _ _ _ v7 (((xs ++ ex.map tokIns) ++ [(11, 0)]) ++ T) 10 m0 i3 hR7.st Hi3.out (by omega)).mono ?_
    rintro e w8 hr
    obtain ⟨v8, rfl, hR8⟩ := hR7.step hr
    clear hr hR7
    obtain ⟨Ap, np, cp, rfl, hnp⟩ := hR8.st.row.form
    clear hnp
    obtain ⟨g, rfl, hnp, hc, hfz, hp5, hnext⟩ := (hR8.eq (ys := (xs ++ ex.map tokIns) ++ ([((11 : Int), (0 : Int))] ++ (T ++ [(10, (m0 : Int))]))) (by simp only [List.append_assoc])).at_ Hi1.out
    obtain rfl : i4 = np := by have := Hi4.out; omega
    clear hnp
    have hnx := hnext i4
    clear hnext
    go_wp2_with fail
    have gA : (0 : Int) ≤ (i1 : Int) := by omega
    have gB : (i1 : Int) < (i4 : Int) := by omega
    have gC : (i1 : Int) ≤ (i4 : Int) := by omega
    go_region_held3 (fun W => W.cell? ⟨L, 5, none⟩ = some (.slice (some ⟨g, 0, none⟩) i4 cp)) (first | exact hp5 | exact hnx.st.p5 | (go_keep; done)) (first | fail)
    have hR9 := hnx.drew
    clear hc hfz hp5 hR8 gA gB gC
    go_wp2_with fail
    refine bodyPost_ret (v := .tuple #[]) (by simp [results, Try.results220, go_sem]) rfl ?_
    have hfin := (hR9.eq (ys := zs) (by rw [HZ.out]; simp only [List.append_assoc])).ret (r := .tuple #[])
    rw [HW.out] at hfin
    exact hfin.up
  · have u0wc := hR.cell hnL hnb x0
    have HZ := Lib.hid (show xs ++ (ex.map tokIns ++ [(9, 0)]) = zs by rw [← HZ0.out, stmtC_9 HE2.out HE1.out])
    go_wp2_with fail
    refine (implAddAt _ L _ _ _ _ _ vk (xs ++ ex.map tokIns) 9 0 i1 hR.st Hi1.out (by omega)).mono ?_
    rintro e w6 hr
    obtain ⟨v6, rfl, hR6⟩ := hR.step hr
    clear hr hR
    go_wp2_with fail
    refine bodyPost_ret (v := .tuple #[]) (by simp [results, Try.results220, go_sem]) rfl ?_
    have hfin := (hR6.eq (ys := zs) (by rw [List.append_assoc]; exact HZ.out)).ret (r := .tuple #[])
    rw [HW.out] at hfin
    exact hfin.up
set_option maxHeartbeats 2000000 in
theorem implBlockC (f : Nat) : LowBlk f := by
  induction f using Nat.strongRecOn with
  | ind f ih =>
    intro w L c0 c1 c2 A n c ss As ns cs Ab nb cb bl v xs lb a h hs hb hst ha hlo hok hf hn hx hl
    have IH := Lib.hid ih
    have e1 := Lib.hid h.lenEq
    have e2 := hb.lenEq
    have b2 := hb.lenLe
    have HA := Lib.hid ha
    have HLO := Lib.hid hlo
    have HO := Lib.hid hok
    have HX := Lib.hid hx
    have hvL : ∀ g, v.ownBlock = some g → L < g := fun g hg => (hst.lt_own g hg).1
    have hLw := hst.lt
    clear ih ha hlo hok hx
    go_enter Try.func177, Try.ntmps177
    go_wp2_with fail
    go_loopw [8] (fun i wr => ∃ k : Nat, k ≤ nb ∧ i = .int .i64 k ∧ ∃ vk, LowRun w L c0 c1 c2 (.slice A n c) (.slice As ns cs) v wr vk (xs ++ codeB ss (f + 1) a (bl.take k))) (fun i _ => nb - (intOf i).toNat)
    case atStart => exact ⟨0, Nat.zero_le _, rfl, v, by rw [List.take_zero, codeB_nil, List.append_nil]; exact LowRun.start hst⟩
    case round =>
      obtain ⟨k, hk, rfl, vk, hR⟩ := hrel
      by_cases hlt : k < nb
      · obtain ⟨b, o, rfl, _, _, hc1, _⟩ := (hR.sl (Nat.le_of_lt hLw) hvL hb).int_at hlt
        have hx := HO.out (bl[k]'(by omega)) (List.getElem_mem _)
        have hs0 := codeB_succ ss f a bl k (by omega)
        have hle := codeB_take_le ss (f + 1) a bl (k + 1)
        generalize bl[k]'(by omega) = x at hc1 hx hs0
        obtain ⟨x1', x2'⟩ := hx
        obtain ⟨j, rfl⟩ := Int.eq_ofNat_of_zero_le (show 0 ≤ x by omega)
        obtain ⟨f', rfl⟩ : ∃ f', f = f' + 1 := ⟨f - 1, by have := e1.out; omega⟩
        have hj : j < n := by have := e1.out; omega
        rw [hs0, List.length_append] at hle
        obtain ⟨ys, hys⟩ : ∃ ys, ys = codeB ss (f' + 1 + 1) a (bl.take k) := ⟨_, rfl⟩
        rw [← hys] at hs0 hle hR
        have HS := Lib.hid hs0
        have hyx : (xs ++ ys).length = a + ys.length := by rw [List.length_append, HX.out]
        have HYX := Lib.hid hyx
        have hbd : a + ys.length + (stmtC ss (codeB ss (f' + 1)) (j : Int) (a + ys.length)).length ≤ 1073741824 := by omega
        have HBD := Lib.hid hbd
        clear hs0 hys hle hyx hbd
        go_wp2_with fail
        refine (implStmtC f' (IH.out f' (by omega)) _ L c0 c1 c2 A n c ss As ns cs vk (xs ++ ys) j (a + ys.length) (hR.sl (Nat.le_of_lt hLw) hvL h) (hR.sl (Nat.le_of_lt hLw) hvL hs) hR.st HA.out HLO.out hj (by omega) (by have := e1.out; omega) HYX.out HBD.out).mono ?_
        rintro e w2 hr
        obtain ⟨v2, rfl, hR2⟩ := hR.step hr
        have hR3 := hR2.eq (ys := xs ++ codeB ss (f' + 1 + 1) a (bl.take (k + 1))) (by rw [HS.out, List.append_assoc])
        clear hr hR hR2 HS HBD HYX
        go_wp2_with fail
        go_roundw
        case rel => exact ⟨k + 1, by omega, by go_num, _, hR3⟩
        case measure => simp [intOf]; omega
      · rw [List.take_of_length_le (by omega)] at hR
        go_wp2_with fail
        refine bodyPost_ret (v := .tuple #[]) (by simp [results, Try.results177, go_sem]) rfl ?_
        exact hR.ret
end Go.Proofs.Ytgagbbhnifkclaa
