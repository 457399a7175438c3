/- What a code names is there; its rows; which instructions raise: walks of both sides. -/
import Derived.Test.YtenpekohbedehaaTake
import Derived.Test.YtenpekohbedehaaSized2
set_option linter.unusedVariables false
set_option linter.unusedSimpArgs false
set_option maxRecDepth 100000
namespace Go.Proofs.Ytenpekohbedehaa
open Go.RowKit
theorem named_a {v : Int} {s c : Nat} {o k : Int} (h : o = 2 ∨ o = 3) : namedI v s c (o, k) = decide (k < v) := by unfold namedI; simp only; rw [if_pos h]
theorem named_b {v : Int} {s c : Nat} {o k : Int} (h : o = 12 ∨ o = 17) : namedI v s c (o, k) = decide (k < (s : Int)) := by unfold namedI; simp only; rw [if_neg (by omega), if_pos h]
theorem named_c {v : Int} {s c : Nat} {k : Int} : namedI v s c (7, k) = decide (k < (c : Int)) := by unfold namedI; simp
theorem named_d {v : Int} {s c : Nat} {o k : Int} (h1 : ¬ (o = 2 ∨ o = 3)) (h2 : ¬ (o = 12 ∨ o = 17)) (h3 : ¬ o = 7) : namedI v s c (o, k) = true := by unfold namedI; simp only; rw [if_neg h1, if_neg h2, if_neg h3]
theorem not_lt_dec {a b : Int} : decide (b ≤ a) = !decide (a < b) := by rw [← decide_not, decide_eq_decide]; omega
theorem endOf_0 {rows : List Row} : endOf (rows.take 0) = 0 := by simp [endOf]
theorem endOf_succ {rows : List Row} {k : Nat} {r : Row} (hk : k < rows.length) (h : rows[k] = r) : endOf (rows.take (k + 1)) = r.2.1 := by
  rw [List.take_succ_eq_append_getElem hk, h]; unfold endOf; simp
theorem rowAt_eq {rows : List Row} {many : Int} {k : Nat} {r : Row} (hk : k < rows.length) (h : rows[k] = r) : rowAt rows many k = rowOk (endOf (rows.take k)) many r := by
  unfold rowAt; rw [show rows.getD k (0, 0, 0) = rows[k] by simp [List.getD, hk], h]
section
variable {e many a b p : Int}
theorem rowOk_1 (h : a < e) : rowOk e many (a, b, p) = false := by unfold rowOk; simp; omega
theorem rowOk_2 (h : b ≤ a) : rowOk e many (a, b, p) = false := by unfold rowOk; simp; omega
theorem rowOk_3 (h : many < b) : rowOk e many (a, b, p) = false := by unfold rowOk; simp; omega
theorem rowOk_4 (h1 : ¬ a < e) (h2 : ¬ b ≤ a) (h3 : ¬ many < b) : rowOk e many (a, b, p) = inB p 0 (many - 1) := by
  unfold rowOk
  simp only
  rw [show decide (e ≤ a) = true by simp; omega, show decide (a < b) = true by simp; omega, show decide (b ≤ many) = true by simp; omega]; rfl
end
set_option maxHeartbeats 4000000 in
theorem implAreRows (w : World) (lo hi : Nat) (A : Option Addr) (n c : Nat) (rows : List Row) (m : Nat) (h : Sl RowR w lo hi A n c rows) (hh : hi ≤ w.heap.size) (hm : m ≤ 1048576) :
    Calls Try.prog 145 #[.slice A n c, .int .i64 m] w (RetB (rowsB rows m) w) := by
  have HL := Lib.hid h.lenEq
  have b1 := h.lenLe
  have qw : IntKind.i64.wrap ((m : Int) - 1) = (m : Int) - 1 := IntWalk.i64_in _ (by omega)
  go_enter Try.func145, Try.ntmps145
  go_wp2_with fail
  go_loopw [5, 10] (fun t i wr => ∃ (k : Nat) (E : Int), k ≤ n ∧ i = .int .i64 k ∧ t = .int .i64 E ∧ endOf (rows.take k) = E ∧ (List.range k).all (rowAt rows m) = true ∧ Below w.heap.size w wr) (fun _ i _ => n - (intOf i).toNat)
  case atStart => exact ⟨0, 0, Nat.zero_le _, rfl, rfl, endOf_0, rfl, Below.refl _ _⟩
  case round =>
    obtain ⟨k, E, hk, rfl, rfl, hE0, ht0, hb⟩ := hrel
    have ht := Lib.hid ht0
    have hE := Lib.hid hE0
    clear ht0 hE0
    have hbz := hb.size
    by_cases hlt : k < n
    · obtain ⟨b, o, y0, y1, y2, rfl, _, _, hl0, i0, i1, i2, d0, d1, d2⟩ := Row_at (h.below hb hh) hlt
      have hq := rowAt_eq (many := (m : Int)) (show k < rows.length by have := HL.out; omega) hl0
      rw [hE.out] at hq
      have hE2 := Lib.hid (endOf_succ (show k < rows.length by have := HL.out; omega) hl0)
      have hok := Lib.hid (fun (hp : rowOk E m (y0, y1, y2) = true) => range_all_succ (p := rowAt rows m) ht.out (by rw [hq]; exact hp))
      have hno := Lib.hid (fun (hp : rowOk E m (y0, y1, y2) = false) => show rowsB rows m = false from range_all_false (p := rowAt rows m) (n := rows.length) (k := k) (by have := HL.out; omega) (by rw [hq]; exact hp))
      clear hl0 hq
      by_cases g1 : y0 < E
      · have hs := Lib.hid (hno.out (rowOk_1 g1))
        go_wp2_with fail
        go_ret
        exact RetB.mk hs.out.symm (by exact belA)
      by_cases g2 : y1 ≤ y0
      · have hs := Lib.hid (hno.out (rowOk_2 g2))
        go_wp2_with fail
        go_ret
        exact RetB.mk hs.out.symm (by exact belA)
      by_cases g3 : (m : Int) < y1
      · have hs := Lib.hid (hno.out (rowOk_3 g3))
        go_wp2_with fail
        go_ret
        exact RetB.mk hs.out.symm (by exact belA)
      have hq := rowOk_4 (p := y2) g1 g2 g3
      rw [hq] at hok hno
      clear hq
      cases hp : inB y2 0 ((m : Int) - 1)
      · have hs := Lib.hid (hno.out hp)
        go_wp2_with (go_at_call 74; ((with_reducible refine (implWithin _ _ _ _).mono ?_); rintro e w2 ⟨rfl, rfl⟩))
        go_ret
        exact RetB.mk hs.out.symm (by exact belA)
      · have hs := Lib.hid (hok.out hp)
        go_wp2_with (go_at_call 74; ((with_reducible refine (implWithin _ _ _ _).mono ?_); rintro e w2 ⟨rfl, rfl⟩))
        go_roundw
        case rel => exact ⟨k + 1, y1, by omega, by go_num, rfl, hE2.out, hs.out, by exact belA⟩
        case measure => simp [intOf]; omega
    · have hs := Lib.hid (show rowsB rows m = true by unfold rowsB; rw [HL.out, show n = k by omega]; exact ht.out)
      go_wp2_with fail
      go_ret
      exact RetB.mk hs.out.symm hb
set_option maxHeartbeats 4000000 in
theorem specL5Rows (w : World) (lo hi : Nat) (A : Option Addr) (n c : Nat) (rows : List Row) (m : Nat) (h : Sl RowR w lo hi A n c rows) (hh : hi ≤ w.heap.size) (hm : m ≤ 1048576) :
    Calls Try.prog 188 #[.slice A n c, .int .i64 m] w (RetB (rowsB rows m) w) := by
  have HL := Lib.hid h.lenEq
  have b1 := h.lenLe
  have qw : IntKind.i64.wrap ((m : Int) - 1) = (m : Int) - 1 := IntWalk.i64_in _ (by omega)
  go_enter Try.func188, Try.ntmps188
  go_wp2_with fail
  go_loopw [5, 10] (fun t i wr => ∃ (k : Nat) (E : Int), k ≤ n ∧ i = .int .i64 k ∧ t = .int .i64 E ∧ endOf (rows.take k) = E ∧ (List.range k).all (rowAt rows m) = true ∧ Below w.heap.size w wr) (fun _ i _ => n - (intOf i).toNat)
  case atStart => exact ⟨0, 0, Nat.zero_le _, rfl, rfl, endOf_0, rfl, Below.refl _ _⟩
  case round =>
    obtain ⟨k, E, hk, rfl, rfl, hE0, ht0, hb⟩ := hrel
    have ht := Lib.hid ht0
    have hE := Lib.hid hE0
    clear ht0 hE0
    have hbz := hb.size
    by_cases hlt : k < n
    · obtain ⟨b, o, y0, y1, y2, rfl, _, _, hl0, i0, i1, i2, d0, d1, d2⟩ := Row_at (h.below hb hh) hlt
      have hq := rowAt_eq (many := (m : Int)) (show k < rows.length by have := HL.out; omega) hl0
      rw [hE.out] at hq
      have hE2 := Lib.hid (endOf_succ (show k < rows.length by have := HL.out; omega) hl0)
      have hok := Lib.hid (fun (hp : rowOk E m (y0, y1, y2) = true) => range_all_succ (p := rowAt rows m) ht.out (by rw [hq]; exact hp))
      have hno := Lib.hid (fun (hp : rowOk E m (y0, y1, y2) = false) => show rowsB rows m = false from range_all_false (p := rowAt rows m) (n := rows.length) (k := k) (by have := HL.out; omega) (by rw [hq]; exact hp))
      clear hl0 hq
      by_cases g1 : y0 < E
      · have hs := Lib.hid (hno.out (rowOk_1 g1))
        go_wp2_with fail
        go_ret
        exact RetB.mk hs.out.symm (by exact belA)
      by_cases g2 : y1 ≤ y0
      · have hs := Lib.hid (hno.out (rowOk_2 g2))
        go_wp2_with fail
        go_ret
        exact RetB.mk hs.out.symm (by exact belA)
      by_cases g3 : (m : Int) < y1
      · have hs := Lib.hid (hno.out (rowOk_3 g3))
        go_wp2_with fail
        go_ret
        exact RetB.mk hs.out.symm (by exact belA)
      have hq := rowOk_4 (p := y2) g1 g2 g3
      rw [hq] at hok hno
      clear hq
      cases hp : inB y2 0 ((m : Int) - 1)
      · have hs := Lib.hid (hno.out hp)
        go_wp2_with (go_at_call 50; ((with_reducible refine (specL1In _ _ _ _).mono ?_); rintro e w2 ⟨rfl, rfl⟩))
        go_ret
        exact RetB.mk hs.out.symm (by exact belA)
      · have hs := Lib.hid (hok.out hp)
        go_wp2_with (go_at_call 50; ((with_reducible refine (specL1In _ _ _ _).mono ?_); rintro e w2 ⟨rfl, rfl⟩))
        go_roundw
        case rel => exact ⟨k + 1, y1, by omega, by go_num, rfl, hE2.out, hs.out, by exact belA⟩
        case measure => simp [intOf]; omega
    · have hs := Lib.hid (show rowsB rows m = true by unfold rowsB; rw [HL.out, show n = k by omega]; exact ht.out)
      go_wp2_with fail
      go_ret
      exact RetB.mk hs.out.symm hb
end Go.Proofs.Ytenpekohbedehaa
