/- What a code names is there; its rows; which instructions raise: walks of both sides. -/
import Derived.Test.YtgoinmdnpaknpaaGreatTake
import Derived.Test.YtgoinmdnpaknpaaGreatSized2
set_option linter.unusedVariables false
set_option linter.unusedSimpArgs false
set_option maxRecDepth 100000
namespace Go.Proofs.YtgoinmdnpaknpaaGreat
open Go.RowKit
theorem named_a {v : Int} {s c : Nat} {o k : Int} (h : o = 2 ∨ o = 3) : namedI v s c (o, k) = decide (k < v) := by unfold namedI; simp only; rw [if_pos h]
theorem named_b {v : Int} {s c : Nat} {o k : Int} (h : o = 12 ∨ o = 17) : namedI v s c (o, k) = decide (k < (s : Int)) := by unfold namedI; simp only; rw [if_neg (by omega), if_pos h]
theorem named_c {v : Int} {s c : Nat} {k : Int} : namedI v s c (7, k) = decide (k < (c : Int)) := by unfold namedI; simp
theorem named_d {v : Int} {s c : Nat} {o k : Int} (h1 : ¬ (o = 2 ∨ o = 3)) (h2 : ¬ (o = 12 ∨ o = 17)) (h3 : ¬ o = 7) : namedI v s c (o, k) = true := by unfold namedI; simp only; rw [if_neg h1, if_neg h2, if_neg h3]
theorem not_lt_dec {a b : Int} : decide (b ≤ a) = !decide (a < b) := by rw [← decide_not, decide_eq_decide]; omega
set_option maxHeartbeats 1000000 in
theorem areNamed1 (w : World) (o k vars : Int) (pc px : Nat) (A2 A : Option Addr) (n2 c2 n c : Nat) (h1 : w.cell? ⟨pc, 1, none⟩ = some (.int .i64 vars)) (h2 : w.cell? ⟨pc, 2, none⟩ = some (.slice A2 n2 c2)) (h3 : w.cell? ⟨px, 0, none⟩ = some (.slice A n c)) :
    Calls Tryz.prog 96 (#[.agg #[.int .i64 o, .int .i64 k]] ++ #[.pointer (some ⟨pc, 0, none⟩), .pointer (some ⟨px, 0, none⟩)]) w (RetB (!namedI vars n2 n (o, k)) w) := by
  show Calls Tryz.prog 96 #[.agg #[.int .i64 o, .int .i64 k], .pointer (some ⟨pc, 0, none⟩), .pointer (some ⟨px, 0, none⟩)] w _
  have z1 := World.block_lt_of_cell? w _ h1
  have z3 := World.block_lt_of_cell? w _ h3
  by_cases g1 : o = 2 ∨ o = 3
  · have hq := Lib.hid (named_a (v := vars) (s := n2) (c := n) (k := k) g1)
    rcases g1 with rfl | rfl
    all_goals
      go_enter Tryz.func96, Tryz.ntmps96
      go_wp2_with fail
      go_ret
      exact RetB.mk (by rw [hq.out, not_lt_dec]) (by exact belA)
  by_cases g2 : o = 12 ∨ o = 17
  · have hq := Lib.hid (named_b (v := vars) (s := n2) (c := n) (k := k) g2)
    clear g1
    rcases g2 with rfl | rfl
    all_goals
      go_enter Tryz.func96, Tryz.ntmps96
      go_wp2_with fail
      go_ret
      exact RetB.mk (by rw [hq.out, not_lt_dec]) (by exact belA)
  by_cases g3 : o = 7
  · subst g3
    have hq := Lib.hid (named_c (v := vars) (s := n2) (c := n) (k := k))
    clear g1 g2
    go_enter Tryz.func96, Tryz.ntmps96
    go_wp2_with fail
    go_ret
    exact RetB.mk (by rw [hq.out, not_lt_dec]) (by exact belA)
  · have hq := Lib.hid (named_d (v := vars) (s := n2) (c := n) (k := k) g1 g2 g3)
    have e2 : (o == 2) = false := by simp; omega
    have e3 : (o == 3) = false := by simp; omega
    have e12 : (o == 12) = false := by simp; omega
    have e17 : (o == 17) = false := by simp; omega
    have e7 : (o == 7) = false := by simp; omega
    clear g1 g2 g3
    go_enter Tryz.func96, Tryz.ntmps96
    go_wp2_with fail
    go_ret
    exact RetB.mk (by rw [hq.out]; rfl) (by exact belA)
set_option maxHeartbeats 2000000 in
theorem implAreNamed (w : World) (lo hi : Nat) (A : Option Addr) (n c : Nat) (x : List Code) (x0 x1 : Int) (A2 A3 A4 : Option Addr) (n2 c2 n3 c3 n4 c4 : Nat) (s3 : List Ins) (h3 : Sl InsR w lo hi A3 n3 c3 s3) (hh : hi ≤ w.heap.size) :
    Calls Tryz.prog 69 #[.agg #[.slice A n c], .agg #[.int .i64 x0, .int .i64 x1, .slice A2 n2 c2, .slice A3 n3 c3, .slice A4 n4 c4]] w (RetB (s3.all (namedI x1 n2 n)) w) := by
  go_enter Tryz.func69, Tryz.ntmps69
  go_wp2_with fail
  obtain ⟨W, hW⟩ : ∃ W, W = (w.alloc (.cells #[.slice A n c] 24)).alloc (.cells #[.int .i64 x0, .int .i64 x1, .slice A2 n2 c2, .slice A3 n3 c3, .slice A4 n4 c4] 39) := ⟨_, rfl⟩
  have hbW : Below w.heap.size w W := by rw [hW]; exact belA
  have k1 : W.cell? ⟨w.heap.size + 1, 1, none⟩ = some (.int .i64 x1) := by rw [hW]; simp [go_sem]
  have k2 : W.cell? ⟨w.heap.size + 1, 2, none⟩ = some (.slice A2 n2 c2) := by rw [hW]; simp [go_sem]
  have k0 : W.cell? ⟨w.heap.size, 0, none⟩ = some (.slice A n c) := by rw [hW]; simp [go_sem]
  rw [← hW]
  clear hW
  refine (conFuncIns 96 #[.pointer (some ⟨w.heap.size + 1, 0, none⟩), .pointer (some ⟨w.heap.size, 0, none⟩)] (fun i => !namedI x1 n2 n i) _ lo hi n3 c3 A3 s3 (h3.below hbW hh) (by have := hbW.size; omega) (fun _ _ => by kernel_rfl)
    (fun V a b _ hV _ _ => areNamed1 V a b x1 (w.heap.size + 1) w.heap.size A2 A n2 c2 n c (below_cell hV k1) (below_cell hV k2) (below_cell hV k0))).mono ?_
  rintro e w2 ⟨rfl, hb⟩
  clear k0 k1 k2
  go_wp2_with fail
  go_ret
  exact RetB.mk (any_not_all _ _) (by exact belA)
set_option maxHeartbeats 8000000 in
theorem specL5Named (w : World) (lo hi : Nat) (A : Option Addr) (n c : Nat) (x : List Code) (x0 x1 : Int) (A2 A3 A4 : Option Addr) (n2 c2 n3 c3 n4 c4 : Nat) (s3 : List Ins) (h3 : Sl InsR w lo hi A3 n3 c3 s3) (hh : hi ≤ w.heap.size) :
    Calls Tryz.prog 51 #[.agg #[.slice A n c], .agg #[.int .i64 x0, .int .i64 x1, .slice A2 n2 c2, .slice A3 n3 c3, .slice A4 n4 c4]] w (RetB (s3.all (namedI x1 n2 n)) w) := by
  have HL := Lib.hid h3.lenEq
  have b1 := h3.lenLe
  go_enter Tryz.func51, Tryz.ntmps51
  go_wp2_with fail
  obtain ⟨W, hW⟩ : ∃ W, W = (w.alloc (.cells #[.slice A n c] 24)).alloc (.cells #[.int .i64 x0, .int .i64 x1, .slice A2 n2 c2, .slice A3 n3 c3, .slice A4 n4 c4] 39) := ⟨_, rfl⟩
  have hbW : Below w.heap.size w W := by rw [hW]; exact belA
  have hzW : W.heap.size = w.heap.size + 2 := by rw [hW]; simp
  have k1 := Lib.hid (show W.cell? ⟨w.heap.size + 1, 1, none⟩ = some (.int .i64 x1) by rw [hW]; simp [go_sem])
  have k2 := Lib.hid (show W.cell? ⟨w.heap.size + 1, 2, none⟩ = some (.slice A2 n2 c2) by rw [hW]; simp [go_sem])
  have k0 := Lib.hid (show W.cell? ⟨w.heap.size, 0, none⟩ = some (.slice A n c) by rw [hW]; simp [go_sem])
  rw [← hW]
  clear hW
  go_loopw [10] (fun i wr => ∃ k : Nat, k ≤ n3 ∧ i = .int .i64 k ∧ (s3.take k).all (namedI x1 n2 n) = true ∧ Below W.heap.size W wr) (fun i _ => n3 - (intOf i).toNat)
  case atStart => exact ⟨0, Nat.zero_le _, rfl, rfl, Below.refl _ _⟩
  case round =>
    obtain ⟨k, hk, rfl, ht0, hb⟩ := hrel
    have ht := Lib.hid ht0
    clear ht0
    have hbz := hb.size
    have hbw := below_then hbW hb
    by_cases hlt : k < n3
    · obtain ⟨b, o, y0, y1, rfl, _, _, hl0, i0, i1, d0, d1⟩ := Ins_at (h3.below hbw hh) hlt
      have hok := Lib.hid (fun (hp : namedI x1 n2 n (y0, y1) = true) => all_take_succ (p := namedI x1 n2 n) ht.out (by have := HL.out; omega) (by rw [hl0]; exact hp))
      have hno := Lib.hid (fun (hp : namedI x1 n2 n (y0, y1) = false) => all_false (p := namedI x1 n2 n) (l := s3) (k := k) (by have := HL.out; omega) (by rw [hl0]; exact hp))
      have q1 := below_cell hb k1.out
      have q2 := below_cell hb k2.out
      have q0 := below_cell hb k0.out
      have zr : w.heap.size + 1 < wr.heap.size := World.block_lt_of_cell? wr _ q1
      have zr0 : w.heap.size < wr.heap.size := by omega
      clear hl0
      by_cases g1 : y0 = 2 ∨ y0 = 3
      · have hq := named_a (v := x1) (s := n2) (c := n) (k := y1) g1
        rw [hq] at hok hno
        clear hq
        by_cases hp : y1 < x1
        · have hs := Lib.hid (hok.out (by simpa using hp))
          rcases g1 with rfl | rfl
          all_goals
            go_wp2_with fail
            go_roundw
            case rel => exact ⟨k + 1, by omega, by go_num, hs.out, by exact belA⟩
            case measure => simp [intOf]; omega
        · have hs := Lib.hid (hno.out (by simpa using hp))
          rcases g1 with rfl | rfl
          all_goals
            go_wp2_with fail
            go_ret
            exact RetB.mk hs.out.symm (below_then hbW (by exact belA))
      by_cases g2 : y0 = 12 ∨ y0 = 17
      · have hq := named_b (v := x1) (s := n2) (c := n) (k := y1) g2
        rw [hq] at hok hno
        clear hq g1
        by_cases hp : y1 < (n2 : Int)
        · have hs := Lib.hid (hok.out (by simpa using hp))
          rcases g2 with rfl | rfl
          all_goals
            go_wp2_with fail
            go_roundw
            case rel => exact ⟨k + 1, by omega, by go_num, hs.out, by exact belA⟩
            case measure => simp [intOf]; omega
        · have hs := Lib.hid (hno.out (by simpa using hp))
          rcases g2 with rfl | rfl
          all_goals
            go_wp2_with fail
            go_ret
            exact RetB.mk hs.out.symm (below_then hbW (by exact belA))
      by_cases g3 : y0 = 7
      · subst g3
        have hq := named_c (v := x1) (s := n2) (c := n) (k := y1)
        rw [hq] at hok hno
        clear hq g1 g2
        by_cases hp : y1 < (n : Int)
        · have hs := Lib.hid (hok.out (by simpa using hp))
          go_wp2_with fail
          go_roundw
          case rel => exact ⟨k + 1, by omega, by go_num, hs.out, by exact belA⟩
          case measure => simp [intOf]; omega
        · have hs := Lib.hid (hno.out (by simpa using hp))
          go_wp2_with fail
          go_ret
          exact RetB.mk hs.out.symm (below_then hbW (by exact belA))
      · have hs := Lib.hid (hok.out (named_d g1 g2 g3))
        have e2 : (y0 == 2) = false := by simp; omega
        have e3 : (y0 == 3) = false := by simp; omega
        have e12 : (y0 == 12) = false := by simp; omega
        have e17 : (y0 == 17) = false := by simp; omega
        have e7 : (y0 == 7) = false := by simp; omega
        clear g1 g2 g3
        go_wp2_with fail
        go_roundw
        case rel => exact ⟨k + 1, by omega, by go_num, hs.out, by exact belA⟩
        case measure => simp [intOf]; omega
    · have hs := Lib.hid (show s3.all (namedI x1 n2 n) = true by have := ht.out; rwa [List.take_of_length_le (by have := HL.out; omega)] at this)
      go_wp2_with fail
      go_ret
      exact RetB.mk hs.out.symm hbw
theorem endOf_0 {rows : List Row} : endOf (rows.take 0) = 0 := by simp [endOf]
theorem endOf_succ {rows : List Row} {k : Nat} {r : Row} (hk : k < rows.length) (h : rows[k] = r) : endOf (rows.take (k + 1)) = r.2.1 := by
  rw [List.take_succ_eq_append_getElem hk, h]; unfold endOf; simp
theorem rowAt_eq {rows : List Row} {many : Int} {k : Nat} {r : Row} (hk : k < rows.length) (h : rows[k] = r) : rowAt rows many k = rowOk (endOf (rows.take k)) many r := by
  unfold rowAt; rw [show rows.getD k (0, 0, 0) = rows[k] by simp [List.getD, hk], h]
section
variable {e many a b p : Int}
theorem rowOk_1 (h : a < e) : rowOk e many (a, b, p) = false := by unfold rowOk; simp; omega
theorem rowOk_2 (h : b ≤ a) : rowOk e many (a, b, p) = false := by unfold rowOk; simp; omega
theorem rowOk_3 (h : many < b) : rowOk e many (a, b, p) = false := by unfold rowOk; simp; omega
theorem rowOk_4 (h1 : ¬ a < e) (h2 : ¬ b ≤ a) (h3 : ¬ many < b) : rowOk e many (a, b, p) = inB p 0 (many - 1) := by
  unfold rowOk
  simp only
  rw [show decide (e ≤ a) = true by simp; omega, show decide (a < b) = true by simp; omega, show decide (b ≤ many) = true by simp; omega]; rfl
end
set_option maxHeartbeats 4000000 in
theorem implAreRows (w : World) (lo hi : Nat) (A : Option Addr) (n c : Nat) (rows : List Row) (m : Nat) (h : Sl RowR w lo hi A n c rows) (hh : hi ≤ w.heap.size) (hm : m ≤ 1048576) :
    Calls Tryz.prog 73 #[.slice A n c, .int .i64 m] w (RetB (rowsB rows m) w) := by
  have HL := Lib.hid h.lenEq
  have b1 := h.lenLe
  have qw : IntKind.i64.wrap ((m : Int) - 1) = (m : Int) - 1 := IntWalk.i64_in _ (by omega)
  go_enter Tryz.func73, Tryz.ntmps73
  go_wp2_with fail
  go_loopw [5, 10] (fun t i wr => ∃ (k : Nat) (E : Int), k ≤ n ∧ i = .int .i64 k ∧ t = .int .i64 E ∧ endOf (rows.take k) = E ∧ (List.range k).all (rowAt rows m) = true ∧ Below w.heap.size w wr) (fun _ i _ => n - (intOf i).toNat)
  case atStart => exact ⟨0, 0, Nat.zero_le _, rfl, rfl, endOf_0, rfl, Below.refl _ _⟩
  case round =>
    obtain ⟨k, E, hk, rfl, rfl, hE0, ht0, hb⟩ := hrel
    have ht := Lib.hid ht0
    have hE := Lib.hid hE0
    clear ht0 hE0
    have hbz := hb.size
    by_cases hlt : k < n
    · obtain ⟨b, o, y0, y1, y2, rfl, _, _, hl0, i0, i1, i2, d0, d1, d2⟩ := Row_at (h.below hb hh) hlt
      have hq := rowAt_eq (many := (m : Int)) (show k < rows.length by have := HL.out; omega) hl0
      rw [hE.out] at hq
      have hE2 := Lib.hid (endOf_succ (show k < rows.length by have := HL.out; omega) hl0)
      have hok := Lib.hid (fun (hp : rowOk E m (y0, y1, y2) = true) => range_all_succ (p := rowAt rows m) ht.out (by rw [hq]; exact hp))
      have hno := Lib.hid (fun (hp : rowOk E m (y0, y1, y2) = false) => show rowsB rows m = false from range_all_false (p := rowAt rows m) (n := rows.length) (k := k) (by have := HL.out; omega) (by rw [hq]; exact hp))
      clear hl0 hq
      by_cases g1 : y0 < E
      · have hs := Lib.hid (hno.out (rowOk_1 g1))
        go_wp2_with fail
        go_ret
        exact RetB.mk hs.out.symm (by exact belA)
      by_cases g2 : y1 ≤ y0
      · have hs := Lib.hid (hno.out (rowOk_2 g2))
        go_wp2_with fail
        go_ret
        exact RetB.mk hs.out.symm (by exact belA)
      by_cases g3 : (m : Int) < y1
      · have hs := Lib.hid (hno.out (rowOk_3 g3))
        go_wp2_with fail
        go_ret
        exact RetB.mk hs.out.symm (by exact belA)
      have hq := rowOk_4 (p := y2) g1 g2 g3
      rw [hq] at hok hno
      clear hq
      cases hp : inB y2 0 ((m : Int) - 1)
      · have hs := Lib.hid (hno.out hp)
        go_wp2_with (go_at_call 65; ((with_reducible refine (implWithin _ _ _ _).mono ?_); rintro e w2 ⟨rfl, rfl⟩))
        go_ret
        exact RetB.mk hs.out.symm (by exact belA)
      · have hs := Lib.hid (hok.out hp)
        go_wp2_with (go_at_call 65; ((with_reducible refine (implWithin _ _ _ _).mono ?_); rintro e w2 ⟨rfl, rfl⟩))
        go_roundw
        case rel => exact ⟨k + 1, y1, by omega, by go_num, rfl, hE2.out, hs.out, by exact belA⟩
        case measure => simp [intOf]; omega
    · have hs := Lib.hid (show rowsB rows m = true by unfold rowsB; rw [HL.out, show n = k by omega]; exact ht.out)
      go_wp2_with fail
      go_ret
      exact RetB.mk hs.out.symm hb
set_option maxHeartbeats 4000000 in
theorem specL5Rows (w : World) (lo hi : Nat) (A : Option Addr) (n c : Nat) (rows : List Row) (m : Nat) (h : Sl RowR w lo hi A n c rows) (hh : hi ≤ w.heap.size) (hm : m ≤ 1048576) :
    Calls Tryz.prog 54 #[.slice A n c, .int .i64 m] w (RetB (rowsB rows m) w) := by
  have HL := Lib.hid h.lenEq
  have b1 := h.lenLe
  have qw : IntKind.i64.wrap ((m : Int) - 1) = (m : Int) - 1 := IntWalk.i64_in _ (by omega)
  go_enter Tryz.func54, Tryz.ntmps54
  go_wp2_with fail
  go_loopw [5, 10] (fun t i wr => ∃ (k : Nat) (E : Int), k ≤ n ∧ i = .int .i64 k ∧ t = .int .i64 E ∧ endOf (rows.take k) = E ∧ (List.range k).all (rowAt rows m) = true ∧ Below w.heap.size w wr) (fun _ i _ => n - (intOf i).toNat)
  case atStart => exact ⟨0, 0, Nat.zero_le _, rfl, rfl, endOf_0, rfl, Below.refl _ _⟩
  case round =>
    obtain ⟨k, E, hk, rfl, rfl, hE0, ht0, hb⟩ := hrel
    have ht := Lib.hid ht0
    have hE := Lib.hid hE0
    clear ht0 hE0
    have hbz := hb.size
    by_cases hlt : k < n
    · obtain ⟨b, o, y0, y1, y2, rfl, _, _, hl0, i0, i1, i2, d0, d1, d2⟩ := Row_at (h.below hb hh) hlt
      have hq := rowAt_eq (many := (m : Int)) (show k < rows.length by have := HL.out; omega) hl0
      rw [hE.out] at hq
      have hE2 := Lib.hid (endOf_succ (show k < rows.length by have := HL.out; omega) hl0)
      have hok := Lib.hid (fun (hp : rowOk E m (y0, y1, y2) = true) => range_all_succ (p := rowAt rows m) ht.out (by rw [hq]; exact hp))
      have hno := Lib.hid (fun (hp : rowOk E m (y0, y1, y2) = false) => show rowsB rows m = false from range_all_false (p := rowAt rows m) (n := rows.length) (k := k) (by have := HL.out; omega) (by rw [hq]; exact hp))
      clear hl0 hq
      by_cases g1 : y0 < E
      · have hs := Lib.hid (hno.out (rowOk_1 g1))
        go_wp2_with fail
        go_ret
        exact RetB.mk hs.out.symm (by exact belA)
      by_cases g2 : y1 ≤ y0
      · have hs := Lib.hid (hno.out (rowOk_2 g2))
        go_wp2_with fail
        go_ret
        exact RetB.mk hs.out.symm (by exact belA)
      by_cases g3 : (m : Int) < y1
      · have hs := Lib.hid (hno.out (rowOk_3 g3))
        go_wp2_with fail
        go_ret
        exact RetB.mk hs.out.symm (by exact belA)
      have hq := rowOk_4 (p := y2) g1 g2 g3
      rw [hq] at hok hno
      clear hq
      cases hp : inB y2 0 ((m : Int) - 1)
      · have hs := Lib.hid (hno.out hp)
        go_wp2_with (go_at_call 49; ((with_reducible refine (specL1In _ _ _ _).mono ?_); rintro e w2 ⟨rfl, rfl⟩))
        go_ret
        exact RetB.mk hs.out.symm (by exact belA)
      · have hs := Lib.hid (hok.out hp)
        go_wp2_with (go_at_call 49; ((with_reducible refine (specL1In _ _ _ _).mono ?_); rintro e w2 ⟨rfl, rfl⟩))
        go_roundw
        case rel => exact ⟨k + 1, y1, by omega, by go_num, rfl, hE2.out, hs.out, by exact belA⟩
        case measure => simp [intOf]; omega
    · have hs := Lib.hid (show rowsB rows m = true by unfold rowsB; rw [HL.out, show n = k by omega]; exact ht.out)
      go_wp2_with fail
      go_ret
      exact RetB.mk hs.out.symm hb
theorem rowOf1 (w : World) (x0 x1 x2 a : Int) (p : Nat) (h : w.cell? ⟨p, 0, none⟩ = some (.int .i64 a)) : Calls Tryz.prog 103 (#[.agg #[.int .i64 x0, .int .i64 x1, .int .i64 x2]] ++ #[.pointer (some ⟨p, 0, none⟩)]) w (RetB (inRow a (x0, x1, x2)) w) := by
  show Calls Tryz.prog 103 #[.agg #[.int .i64 x0, .int .i64 x1, .int .i64 x2], .pointer (some ⟨p, 0, none⟩)] w _
  have z := World.block_lt_of_cell? w _ h
  by_cases g : x0 ≤ a
  · go_enter Tryz.func103, Tryz.ntmps103
    go_wp2_with fail
    go_ret
    exact RetB.mk (by unfold inRow; simp [g]) (by exact belA)
  · have g' : decide (x0 ≤ a) = false := by simpa using g
    go_enter Tryz.func103, Tryz.ntmps103
    go_wp2_with fail
    go_ret
    exact RetB.mk (by unfold inRow; simp only [g', Bool.false_and]) (by exact belA)
theorem implRowOf (w : World) (lo hi : Nat) (A : Option Addr) (n c : Nat) (rows : List Row) (a : Int) (h : Sl RowR w lo hi A n c rows) (hh : hi ≤ w.heap.size) :
    Calls Tryz.prog 75 #[.slice A n c, .int .i64 a] w (RetIx (idxW (inRow a) rows) w) := by
  go_enter Tryz.func75, Tryz.ntmps75
  go_wp2_with fail
  have k0 : (w.alloc (.cells #[.int .i64 a] 3)).cell? ⟨w.heap.size, 0, none⟩ = some (.int .i64 a) := by simp [go_sem]
  refine (idxFuncRow 103 #[.pointer (some ⟨w.heap.size, 0, none⟩)] (inRow a) _ lo hi n c A rows (h.below (show Below w.heap.size w _ by exact belA) hh) (by first | omega | (simp; done) | (simp; omega)) (fun _ _ => by kernel_rfl)
    (fun V y0 y1 y2 _ hV _ _ _ => rowOf1 V y0 y1 y2 a w.heap.size (below_cell hV k0))).mono ?_
  rintro e w2 ⟨rfl, hb⟩
  clear k0
  go_wp2_with fail
  go_ret
  exact ⟨rfl, by exact belA⟩
theorem inRow_in {a x0 x1 x2 : Int} : inB a x0 (x1 - 1) = inRow a (x0, x1, x2) := by
  rw [Bool.eq_iff_iff]; unfold inRow; rw [inB_iff]; simp; omega
set_option maxHeartbeats 2000000 in
theorem specL5RowAt (w : World) (lo hi : Nat) (A : Option Addr) (n c : Nat) (rows : List Row) (a : Int) (h : Sl RowR w lo hi A n c rows) (hh : hi ≤ w.heap.size) (hr : ∀ r, r ∈ rows → 0 ≤ r.2.1) :
    Calls Tryz.prog 56 #[.slice A n c, .int .i64 a] w (RetIx (idxW (inRow a) rows) w) := by
  have HL := Lib.hid h.lenEq
  have HR := Lib.hid hr
  have b1 := h.lenLe
  clear hr
  go_enter Tryz.func56, Tryz.ntmps56
  go_wp2_with fail
  go_loopw [9] (fun i wr => ∃ k : Nat, k ≤ n ∧ i = .int .i64 k ∧ (rows.take k).any (inRow a) = false ∧ Below w.heap.size w wr) (fun i _ => n - (intOf i).toNat)
  case atStart => exact ⟨0, Nat.zero_le _, rfl, rfl, Below.refl _ _⟩
  case round =>
    obtain ⟨k, hk, rfl, ht0, hb⟩ := hrel
    have ht := Lib.hid ht0
    clear ht0
    have hbz := hb.size
    by_cases hlt : k < n
    · obtain ⟨b, o, y0, y1, y2, rfl, _, _, hl0, i0, i1, i2, d0, d1, d2⟩ := Row_at (h.below hb hh) hlt
      have hkl : k < rows.length := by have := HL.out; omega
      have h1 : 0 ≤ y1 := by have := HR.out _ (List.getElem_mem hkl); rw [hl0] at this; exact this
      have qw : IntKind.i64.wrap (y1 - 1) = y1 - 1 := IntWalk.i64_in _ (by have := i1.2; omega)
      have hin := Lib.hid (inRow_in (a := a) (x0 := y0) (x1 := y1) (x2 := y2))
      have hok := Lib.hid (fun (hp : inB a y0 (y1 - 1) = false) => any_take_succ (p := inRow a) ht.out hkl (by rw [hl0, ← hin.out]; exact hp))
      have hno := Lib.hid (fun (hp : inB a y0 (y1 - 1) = true) => idxW_at (p := inRow a) (l := rows) (k := k) hkl ht.out (by rw [hl0, ← hin.out]; exact hp))
      clear hl0
      cases hp : inB a y0 (y1 - 1)
      · have hs := Lib.hid (hok.out hp)
        go_wp2_with (go_at_call 49; ((with_reducible refine (specL1In _ _ _ _).mono ?_); rintro e w2 ⟨rfl, rfl⟩))
        go_roundw
        case rel => exact ⟨k + 1, by omega, by go_num, hs.out, by exact belA⟩
        case measure => simp [intOf]; omega
      · have hs := Lib.hid (hno.out hp)
        go_wp2_with (go_at_call 49; ((with_reducible refine (specL1In _ _ _ _).mono ?_); rintro e w2 ⟨rfl, rfl⟩))
        go_ret
        exact ⟨rfl_ix hs.out.symm, by exact belA⟩
    · have hs := Lib.hid (idxW_none (p := inRow a) (l := rows) (by have := ht.out; rwa [List.take_of_length_le (by have := HL.out; omega)] at this))
      go_wp2_with fail
      go_ret
      exact ⟨rfl_ix hs.out.symm, hb⟩
theorem implMayRaise (w : World) (o : Int) : Calls Tryz.prog 76 #[.int .i64 o] w (RetB (raisesB o) w) := by
  go_enter Tryz.func76, Tryz.ntmps76
  go_wp2_with fail
  all_goals
    go_ret
    exact RetB.mk (by simp_all [raisesB]) (by exact belA)
theorem specL5Raises (w : World) (o : Int) : Calls Tryz.prog 57 #[.int .i64 o] w (RetB (raisesB o) w) := by
  go_enter Tryz.func57, Tryz.ntmps57
  go_wp2_with fail
  all_goals
    go_ret
    exact RetB.mk (by simp_all [raisesB]) (by exact belA)
end Go.Proofs.YtgoinmdnpaknpaaGreat
