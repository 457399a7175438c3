/- Rows as bytes: walks of both sides. -/
import Derived.Test.YtgoinmdnpaknpaaGreatLebT
import Derived.Deep.DeepCutAuto
import Derived.Deep.RegionHeld3
set_option linter.unusedVariables false
set_option linter.unusedSimpArgs false
set_option maxRecDepth 100000
namespace Go.Proofs.YtgoinmdnpaknpaaGreat
open Go.RowKit
attribute [local irreducible] wpList
theorem rowOk_at {rows : List Row} {many : Int} {k : Nat} {x y z : Int} (h : rowsB rows many = true) (hk : k < rows.length) (hx : rows[k] = (x, y, z)) : endOf (rows.take k) ≤ x ∧ x < y ∧ y ≤ many ∧ 0 ≤ z ∧ z ≤ many - 1 := by
  have h1 := List.all_eq_true.1 h k (List.mem_range.2 hk)
  unfold rowAt rowOk at h1
  rw [show rows.getD k (0, 0, 0) = (x, y, z) by rw [List.getD_eq_getElem?_getD, List.getElem?_eq_getElem hk, hx]; rfl] at h1
  simp only [Bool.and_eq_true, decide_eq_true_eq] at h1
  have h2 := inB_iff.1 h1.2
  omega
theorem endOf_snoc (l : List Row) (r : Row) : endOf (l ++ [r]) = r.2.1 := by rw [← endO_0, endO_snoc]
theorem endOf_gr {rows : List Row} {many : Int} (h : rowsB rows many = true) : ∀ k, k ≤ rows.length → 0 ≤ endOf (rows.take k)
  | 0, _ => by simp [endOf]
  | k + 1, hk => by
    have h1 := endOf_gr h k (by omega)
    have h2 := rowOk_at h (k := k) (x := (rows[k]'(by omega)).1) (y := (rows[k]'(by omega)).2.1) (z := (rows[k]'(by omega)).2.2) (by omega) rfl
    rw [List.take_succ_eq_append_getElem (by omega), endOf_snoc]
    omega
theorem bytes_app (a b : ByteArray) : (a ++ b).data.toList = a.data.toList ++ b.data.toList := by simp
set_option maxHeartbeats 8000000 in
theorem implRowsBytes (w : World) (lo hi : Nat) (A : Option Addr) (n c : Nat) (rows : List Row) (many : Int) (h : Sl RowR w lo hi A n c rows) (hh : hi ≤ w.heap.size) (hn : n ≤ 300) (hm : many ≤ 300) (hr : rowsB rows many = true) :
    Calls Tryz.prog 89 #[.slice A n c] w (RetT (rwsB rows) (10 + 30 * n) w) := by
  have HL := Lib.hid h.lenEq
  have HR := Lib.hid hr
  clear hr
  go_enter Tryz.func89, Tryz.ntmps89
  go_wp2_with fail
  refine (implPutUT w n (by omega)).mono ?_
  rintro e w1 ⟨s1, rfl, hs1, hz1, hb1⟩
  have HS1 := Lib.hid hs1
  clear hs1
  go_wp2_with fail
  go_loopw [3, 4, 13] (fun sv ev iv wr => ∃ (k : Nat) (s : ByteArray), k ≤ n ∧ iv = .int .i64 k ∧ sv = .string s ∧ ev = .int .i64 (endOf (rows.take k)) ∧ Hid (s.data.toList = uB n ++ rwB 0 (rows.take k)) ∧ s.size ≤ 10 + 30 * k ∧ Below w.heap.size w wr) (fun _ _ iv _ => n - (intOf iv).toNat)
  case atStart => exact ⟨0, s1, Nat.zero_le _, rfl, rfl, rfl, Lib.hid (by rw [HS1.out]; simp [rwB]), by omega, hb1⟩
  case round =>
    obtain ⟨k, s, hk, rfl, rfl, rfl, HS, hz, hb⟩ := hrel
    by_cases hlt : k < n
    rotate_left
    · have hkn : k = n := by omega
      have HF := Lib.hid (show s.data.toList = rwsB rows by rw [HS.out, List.take_of_length_le (by have := HL.out; omega)]; unfold rwsB; rw [HL.out])
      go_wp2_with fail
      go_ret
      exact ⟨s, rfl, HF.out, by omega, hb⟩
    obtain ⟨b, o, x0, x1, x2, rfl, _, _, hl0, i0, i1, i2, d0, d1, d2⟩ := Row_at (h.below hb hh) hlt
    have hkl : k < rows.length := by have := HL.out; omega
    obtain ⟨q1, q2, q3, q4, q5⟩ := rowOk_at HR.out hkl hl0
    have q0 := endOf_gr HR.out k (by omega)
    have HX := Lib.hid hl0
    obtain ⟨a, ha⟩ : ∃ a, endOf (rows.take k) = a := ⟨_, rfl⟩
    rw [ha] at q0 q1 ⊢
    have HA := Lib.hid ha
    obtain ⟨m1, hm1⟩ : ∃ m : Nat, (x0 - a).toNat = m := ⟨_, rfl⟩
    obtain ⟨m2, hm2⟩ : ∃ m : Nat, (x1 - x0).toNat = m := ⟨_, rfl⟩
    obtain ⟨m3, hm3⟩ : ∃ m : Int, x2 - x1 = m := ⟨_, rfl⟩
    have HM := Lib.hid (And.intro hm1 (And.intro hm2 hm3))
    have e1 : x0 - a = (m1 : Int) := by omega
    have e2 : x1 - x0 = (m2 : Int) := by omega
    have g1 : IntKind.i64.wrap (m1 : Int) = (m1 : Int) := IntWalk.i64_in _ (by omega)
    have g2 : IntKind.i64.wrap (m2 : Int) = (m2 : Int) := IntWalk.i64_in _ (by omega)
    have g3 : IntKind.i64.wrap m3 = m3 := IntWalk.i64_in _ (by omega)
    have u1 : IntKind.u64.wrap (m1 : Int) = (m1 : Int) := by rw [IntWalk.u64_in _ (by omega)]
    have u2 : IntKind.u64.wrap (m2 : Int) = (m2 : Int) := by rw [IntWalk.u64_in _ (by omega)]
    have l1 : m1 ≤ 300 := by omega
    have l2 : m2 ≤ 300 := by omega
    have l3 : I64 m3 := by unfold I64; omega
    clear hl0 ha hm1 hm2
    go_upto_region 6 with fail
    obtain ⟨U, hU⟩ : ∃ U, U = wr.alloc (.cells #[.int .i64 x0, .int .i64 x1, .int .i64 x2] 71) := ⟨_, rfl⟩
    obtain ⟨Nb, hNb⟩ : ∃ N, wr.heap.size = N := ⟨_, rfl⟩
    have hbU : Below wr.heap.size wr U := by rw [hU]; exact belA
    have hS := Lib.hid (show ∀ V', Below U.heap.size U V' → V'.cell? ⟨Nb, 0, none⟩ = some (.int .i64 x0) ∧ V'.cell? ⟨Nb, 1, none⟩ = some (.int .i64 x1) ∧ V'.cell? ⟨Nb, 2, none⟩ = some (.int .i64 x2) from fun V' hV' =>
      ⟨below_cell hV' (by rw [hU, ← hNb]; simp [go_sem]), below_cell hV' (by rw [hU, ← hNb]; simp [go_sem]), below_cell hV' (by rw [hU, ← hNb]; simp [go_sem])⟩)
    have hbwU : Below w.heap.size w U := hb.trans (hbU.mono hb.size)
    rw [← hU, hNb]
    have hzU := hbwU.size
    clear hU d0 d1 d2 hbU
    obtain ⟨k0, k1, k2⟩ := hS.out U (Below.refl _ _)
    go_region_held3 (fun V' => V'.cell? ⟨Nb, 0, none⟩ = some (.int .i64 x0) ∧ V'.cell? ⟨Nb, 1, none⟩ = some (.int .i64 x1) ∧ V'.cell? ⟨Nb, 2, none⟩ = some (.int .i64 x2)) (exact hS.out _ (show Below U.heap.size U _ by exact beloA))
      (first | (go_at_call 87; ((with_reducible refine (implPutUT _ m1 (by omega)).mono ?_); rintro e w5 ⟨s5, rfl, h5, z5, b5⟩; have t5 : Below U.heap.size U w5 := (by exact beloA); have y5 := t5.size; have H5 := Lib.hid h5; clear h5)) | (go_at_call 87; ((with_reducible refine (implPutUT _ m2 (by omega)).mono ?_); rintro e w6 ⟨s6, rfl, h6, z6, b6⟩; have t6 : Below U.heap.size U w6 := (by exact beloA); have y6 := t6.size; have H6 := Lib.hid h6; clear h6; have c14 : ¬ (s5.size + s6.size > 9223372036854775807) := (by omega))) | (go_at_call 88; ((with_reducible refine (implPutST _ m3 l3).mono ?_); rintro e w7 ⟨s7, rfl, h7, z7, b7⟩; have t7 : Below U.heap.size U w7 := (by exact beloA); have y7 := t7.size; have H7 := Lib.hid h7; clear h7; have c21 : ¬ ((s5 ++ s6).size + s7.size > 9223372036854775807) := (by rw [ByteArray.size_append]; omega); have c22 : ¬ (s.size + (s5 ++ s6 ++ s7).size > 9223372036854775807) := (by rw [ByteArray.size_append, ByteArray.size_append]; omega); have c23 : ¬ (s5.size + s6.size + s7.size > 9223372036854775807) := (by omega); have c24 : ¬ (s.size + (s5.size + s6.size + s7.size) > 9223372036854775807) := (by omega))))
    clear k0 k1 k2 c14 c21 c22 c23 c24
    obtain ⟨k0, k1, k2⟩ := hS.out w7 t7
    obtain ⟨s', hs'⟩ : ∃ s', s ++ (s5 ++ s6 ++ s7) = s' := ⟨_, rfl⟩
    have HS7 := Lib.hid (show s'.data.toList = uB n ++ rwB 0 (rows.take (k + 1)) by
      rw [← hs', List.take_succ_eq_append_getElem hkl, rwB_snoc, endO_0, HA.out, HX.out]
      simp only [bytes_app, HS.out, H5.out, H6.out, H7.out, rwO]
      rw [HM.out.1, HM.out.2.1, HM.out.2.2]
      simp)
    have hz7 : s'.size ≤ 10 + 30 * (k + 1) := by rw [← hs', ByteArray.size_append, ByteArray.size_append, ByteArray.size_append]; omega
    have HE7 := Lib.hid (show endOf (rows.take (k + 1)) = x1 by rw [List.take_succ_eq_append_getElem hkl, endOf_snoc, HX.out])
    have hb7 : Below w.heap.size w w7 := hbwU.trans (t7.mono hzU)
    rw [hs']
    clear hs'
    go_wp2_with fail
    go_roundw
    case rel => exact ⟨k + 1, s', by omega, by go_num, rfl, by rw [HE7.out], HS7, hz7, hb7⟩
    case measure => simp [intOf]; omega
set_option maxHeartbeats 8000000 in
theorem specL7Bytes (w : World) (lo hi : Nat) (A : Option Addr) (n c : Nat) (rows : List Row) (many : Int) (h : Sl RowR w lo hi A n c rows) (hh : hi ≤ w.heap.size) (hn : n ≤ 300) (hm : many ≤ 300) (hr : rowsB rows many = true) :
    Calls Tryz.prog 48 #[.slice A n c] w (RetT (rwsB rows) (10 + 30 * n) w) := by
  have HL := Lib.hid h.lenEq
  have HR := Lib.hid hr
  clear hr
  go_enter Tryz.func48, Tryz.ntmps48
  go_wp2_with fail
  refine (specPutUT w n (by omega)).mono ?_
  rintro e w1 ⟨s1, rfl, hs1, hz1, hb1⟩
  have HS1 := Lib.hid hs1
  clear hs1
  go_wp2_with fail
  go_loopw [3, 4, 13] (fun sv ev iv wr => ∃ (k : Nat) (s : ByteArray), k ≤ n ∧ iv = .int .i64 k ∧ sv = .string s ∧ ev = .int .i64 (endOf (rows.take k)) ∧ Hid (s.data.toList = uB n ++ rwB 0 (rows.take k)) ∧ s.size ≤ 10 + 30 * k ∧ Below w.heap.size w wr) (fun _ _ iv _ => n - (intOf iv).toNat)
  case atStart => exact ⟨0, s1, Nat.zero_le _, rfl, rfl, rfl, Lib.hid (by rw [HS1.out]; simp [rwB]), by omega, hb1⟩
  case round =>
    obtain ⟨k, s, hk, rfl, rfl, rfl, HS, hz, hb⟩ := hrel
    by_cases hlt : k < n
    rotate_left
    · have hkn : k = n := by omega
      have HF := Lib.hid (show s.data.toList = rwsB rows by rw [HS.out, List.take_of_length_le (by have := HL.out; omega)]; unfold rwsB; rw [HL.out])
      go_wp2_with fail
      go_ret
      exact ⟨s, rfl, HF.out, by omega, hb⟩
    obtain ⟨b, o, x0, x1, x2, rfl, _, _, hl0, i0, i1, i2, d0, d1, d2⟩ := Row_at (h.below hb hh) hlt
    have hkl : k < rows.length := by have := HL.out; omega
    obtain ⟨q1, q2, q3, q4, q5⟩ := rowOk_at HR.out hkl hl0
    have q0 := endOf_gr HR.out k (by omega)
    have HX := Lib.hid hl0
    obtain ⟨a, ha⟩ : ∃ a, endOf (rows.take k) = a := ⟨_, rfl⟩
    rw [ha] at q0 q1 ⊢
    have HA := Lib.hid ha
    obtain ⟨m1, hm1⟩ : ∃ m : Nat, (x0 - a).toNat = m := ⟨_, rfl⟩
    obtain ⟨m2, hm2⟩ : ∃ m : Nat, (x1 - x0).toNat = m := ⟨_, rfl⟩
    obtain ⟨m3, hm3⟩ : ∃ m : Int, x2 - x1 = m := ⟨_, rfl⟩
    have HM := Lib.hid (And.intro hm1 (And.intro hm2 hm3))
    have e1 : x0 - a = (m1 : Int) := by omega
    have e2 : x1 - x0 = (m2 : Int) := by omega
    have g1 : IntKind.i64.wrap (m1 : Int) = (m1 : Int) := IntWalk.i64_in _ (by omega)
    have g2 : IntKind.i64.wrap (m2 : Int) = (m2 : Int) := IntWalk.i64_in _ (by omega)
    have g3 : IntKind.i64.wrap m3 = m3 := IntWalk.i64_in _ (by omega)
    have u1 : IntKind.u64.wrap (m1 : Int) = (m1 : Int) := by rw [IntWalk.u64_in _ (by omega)]
    have u2 : IntKind.u64.wrap (m2 : Int) = (m2 : Int) := by rw [IntWalk.u64_in _ (by omega)]
    have l1 : m1 ≤ 300 := by omega
    have l2 : m2 ≤ 300 := by omega
    have l3 : I64 m3 := by unfold I64; omega
    clear hl0 ha hm1 hm2
    go_upto_region 6 with fail
    obtain ⟨U, hU⟩ : ∃ U, U = wr.alloc (.cells #[.int .i64 x0, .int .i64 x1, .int .i64 x2] 71) := ⟨_, rfl⟩
    obtain ⟨Nb, hNb⟩ : ∃ N, wr.heap.size = N := ⟨_, rfl⟩
    have hbU : Below wr.heap.size wr U := by rw [hU]; exact belA
    have hS := Lib.hid (show ∀ V', Below U.heap.size U V' → V'.cell? ⟨Nb, 0, none⟩ = some (.int .i64 x0) ∧ V'.cell? ⟨Nb, 1, none⟩ = some (.int .i64 x1) ∧ V'.cell? ⟨Nb, 2, none⟩ = some (.int .i64 x2) from fun V' hV' =>
      ⟨below_cell hV' (by rw [hU, ← hNb]; simp [go_sem]), below_cell hV' (by rw [hU, ← hNb]; simp [go_sem]), below_cell hV' (by rw [hU, ← hNb]; simp [go_sem])⟩)
    have hbwU : Below w.heap.size w U := hb.trans (hbU.mono hb.size)
    rw [← hU, hNb]
    have hzU := hbwU.size
    clear hU d0 d1 d2 hbU
    obtain ⟨k0, k1, k2⟩ := hS.out U (Below.refl _ _)
    go_region_held3 (fun V' => V'.cell? ⟨Nb, 0, none⟩ = some (.int .i64 x0) ∧ V'.cell? ⟨Nb, 1, none⟩ = some (.int .i64 x1) ∧ V'.cell? ⟨Nb, 2, none⟩ = some (.int .i64 x2)) (exact hS.out _ (show Below U.heap.size U _ by exact beloA))
      (first | (go_at_call 46; ((with_reducible refine (specPutUT _ m1 (by omega)).mono ?_); rintro e w5 ⟨s5, rfl, h5, z5, b5⟩; have t5 : Below U.heap.size U w5 := (by exact beloA); have y5 := t5.size; have H5 := Lib.hid h5; clear h5)) | (go_at_call 46; ((with_reducible refine (specPutUT _ m2 (by omega)).mono ?_); rintro e w6 ⟨s6, rfl, h6, z6, b6⟩; have t6 : Below U.heap.size U w6 := (by exact beloA); have y6 := t6.size; have H6 := Lib.hid h6; clear h6; have c14 : ¬ (s5.size + s6.size > 9223372036854775807) := (by omega))) | (go_at_call 47; ((with_reducible refine (specPutST _ m3 l3).mono ?_); rintro e w7 ⟨s7, rfl, h7, z7, b7⟩; have t7 : Below U.heap.size U w7 := (by exact beloA); have y7 := t7.size; have H7 := Lib.hid h7; clear h7; have c21 : ¬ ((s5 ++ s6).size + s7.size > 9223372036854775807) := (by rw [ByteArray.size_append]; omega); have c22 : ¬ (s.size + (s5 ++ s6 ++ s7).size > 9223372036854775807) := (by rw [ByteArray.size_append, ByteArray.size_append]; omega); have c23 : ¬ (s5.size + s6.size + s7.size > 9223372036854775807) := (by omega); have c24 : ¬ (s.size + (s5.size + s6.size + s7.size) > 9223372036854775807) := (by omega))))
    clear k0 k1 k2 c14 c21 c22 c23 c24
    obtain ⟨k0, k1, k2⟩ := hS.out w7 t7
    obtain ⟨s', hs'⟩ : ∃ s', s ++ (s5 ++ s6 ++ s7) = s' := ⟨_, rfl⟩
    have HS7 := Lib.hid (show s'.data.toList = uB n ++ rwB 0 (rows.take (k + 1)) by
      rw [← hs', List.take_succ_eq_append_getElem hkl, rwB_snoc, endO_0, HA.out, HX.out]
      simp only [bytes_app, HS.out, H5.out, H6.out, H7.out, rwO]
      rw [HM.out.1, HM.out.2.1, HM.out.2.2]
      simp)
    have hz7 : s'.size ≤ 10 + 30 * (k + 1) := by rw [← hs', ByteArray.size_append, ByteArray.size_append, ByteArray.size_append]; omega
    have HE7 := Lib.hid (show endOf (rows.take (k + 1)) = x1 by rw [List.take_succ_eq_append_getElem hkl, endOf_snoc, HX.out])
    have hb7 : Below w.heap.size w w7 := hbwU.trans (t7.mono hzU)
    rw [hs']
    clear hs'
    go_wp2_with fail
    go_roundw
    case rel => exact ⟨k + 1, s', by omega, by go_num, rfl, by rw [HE7.out], HS7, hz7, hb7⟩
    case measure => simp [intOf]; omega
end Go.Proofs.YtgoinmdnpaknpaaGreat
