/- A code as bytes: plain law, and the reference's walk. -/
import Derived.Test.YtgoinmdnpaknpaaGreatRowBy
import Derived.Test.YtgoinmdnpaknpaaGreatTyIm
import Derived.Test.YtgoinmdnpaknpaaGreatSized
set_option linter.unusedVariables false
set_option linter.unusedSimpArgs false
set_option maxRecDepth 100000
namespace Go.Proofs.YtgoinmdnpaknpaaGreat
open Go.RowKit
attribute [local irreducible] wpList
def insBy (i : Ins) : List UInt8 := uB i.1.toNat ++ (if hasNB i.1 = true then sB i.2 else [])
def sitesBy (l : List Int) : List UInt8 := (l.map fun n => uB n.toNat).flatten
def inssBy (l : List Ins) : List UInt8 := (l.map insBy).flatten
/-- A code's bytes. -/
def cdB (p v : Nat) (ss : List Int) (is : List Ins) (rs : List Row) : List UInt8 := uB p ++ uB v ++ uB ss.length ++ sitesBy ss ++ uB is.length ++ inssBy is ++ rwsB rs
theorem sitesBy_succ {l : List Int} {k : Nat} (hk : k < l.length) : sitesBy (l.take (k + 1)) = sitesBy (l.take k) ++ uB (l[k]).toNat := by
  unfold sitesBy; rw [List.take_succ_eq_append_getElem hk, List.map_append, List.flatten_append]; simp only [List.map_cons, List.map_nil, List.flatten_cons, List.flatten_nil, List.append_nil]
theorem inssBy_succ {l : List Ins} {k : Nat} (hk : k < l.length) : inssBy (l.take (k + 1)) = inssBy (l.take k) ++ insBy l[k] := by
  unfold inssBy; rw [List.take_succ_eq_append_getElem hk, List.map_append, List.flatten_append]; simp only [List.map_cons, List.map_nil, List.flatten_cons, List.flatten_nil, List.append_nil]
theorem ins_num {i : Ins} (h : insB i = true) : 0 ≤ i.1 ∧ i.1 ≤ 18 ∧ -2147483648 ≤ i.2 ∧ i.2 ≤ 2147483647 := by
  unfold insB at h
  by_cases h1 : i.1 = 1
  · rw [if_pos h1] at h
    unfold small at h
    have := inB_iff.1 h
    omega
  rw [if_neg h1] at h
  by_cases h4 : i.1 = 4
  · rw [if_pos h4] at h
    have := inB_iff.1 h
    omega
  rw [if_neg h4] at h
  by_cases hn : hasNB i.1 = true
  · rw [if_pos hn] at h
    have := inB_iff.1 h
    unfold hasNB at hn
    simp only [Bool.or_eq_true, beq_iff_eq] at hn
    omega
  · rw [if_neg hn] at h
    simp only [Bool.and_eq_true, beq_iff_eq] at h
    have := inB_iff.1 h.1
    omega
set_option maxHeartbeats 16000000 in
theorem specL12Code (w : World) (lo hi : Nat) (p0 p1 : Nat) (A2 A3 A4 : Option Addr) (n2 c2 n3 c3 n4 c4 : Nat) (ss : List Int) (is : List Ins) (rs : List Row) (h2 : Sl intR w lo hi A2 n2 c2 ss) (h3 : Sl InsR w lo hi A3 n3 c3 is) (h4 : Sl RowR w lo hi A4 n4 c4 rs) (hh : hi ≤ w.heap.size)
    (l0 : p0 ≤ 2) (l1 : p1 ≤ 6) (l2 : n2 ≤ 4) (l3 : n3 ≤ 300) (l4 : n4 ≤ 300) (hs : ss.all (fun n => inB n 0 1000000) = true) (hi3 : is.all insB = true) (hr : rowsB rs n3 = true) :
    Calls Tryz.prog 23 #[.agg #[.int .i64 p0, .int .i64 p1, .slice A2 n2 c2, .slice A3 n3 c3, .slice A4 n4 c4]] w (RetT (cdB p0 p1 ss is rs) 16000 w) := by
  have HL2 := Lib.hid h2.lenEq
  have HL3 := Lib.hid h3.lenEq
  have HSS := Lib.hid hs
  have HII := Lib.hid hi3
  have HRR := Lib.hid hr
  clear hs hi3 hr
  go_enter Tryz.func23, Tryz.ntmps23
  go_upto_region 1 with fail
  obtain ⟨U, hU⟩ : ∃ U, U = w.alloc (.cells #[.int .i64 p0, .int .i64 p1, .slice A2 n2 c2, .slice A3 n3 c3, .slice A4 n4 c4] 39) := ⟨_, rfl⟩
  obtain ⟨Nb, hNb⟩ : ∃ N, w.heap.size = N := ⟨_, rfl⟩
  have hbU : Below w.heap.size w U := by rw [hU]; exact belA
  have hS := Lib.hid (show ∀ V', Below U.heap.size U V' → V'.cell? ⟨Nb, 0, none⟩ = some (.int .i64 p0) ∧ V'.cell? ⟨Nb, 1, none⟩ = some (.int .i64 p1) ∧ V'.cell? ⟨Nb, 2, none⟩ = some (.slice A2 n2 c2) ∧ V'.cell? ⟨Nb, 3, none⟩ = some (.slice A3 n3 c3) ∧ V'.cell? ⟨Nb, 4, none⟩ = some (.slice A4 n4 c4) from fun V' hV' =>
    ⟨below_cell hV' (by rw [hU, ← hNb]; simp [go_sem]), below_cell hV' (by rw [hU, ← hNb]; simp [go_sem]), below_cell hV' (by rw [hU, ← hNb]; simp [go_sem]), below_cell hV' (by rw [hU, ← hNb]; simp [go_sem]), below_cell hV' (by rw [hU, ← hNb]; simp [go_sem])⟩)
  have hzU := hbU.size
  rw [← hU, hNb]
  clear hU
  obtain ⟨k0, k1, k2, k3, k4⟩ := hS.out U (Below.refl _ _)
  have u0 : IntKind.u64.wrap (p0 : Int) = (p0 : Int) := by rw [IntWalk.u64_in _ (by omega)]
  have u1 : IntKind.u64.wrap (p1 : Int) = (p1 : Int) := by rw [IntWalk.u64_in _ (by omega)]
  have u2 : IntKind.u64.wrap (n2 : Int) = (n2 : Int) := by rw [IntWalk.u64_in _ (by omega)]
  go_region_held3 (fun V' => V'.cell? ⟨Nb, 0, none⟩ = some (.int .i64 p0) ∧ V'.cell? ⟨Nb, 1, none⟩ = some (.int .i64 p1) ∧ V'.cell? ⟨Nb, 2, none⟩ = some (.slice A2 n2 c2) ∧ V'.cell? ⟨Nb, 3, none⟩ = some (.slice A3 n3 c3) ∧ V'.cell? ⟨Nb, 4, none⟩ = some (.slice A4 n4 c4)) (exact hS.out _ (show Below U.heap.size U _ by exact beloA))
    (first | (go_at_call 46; ((with_reducible refine (specPutUT _ p0 (by omega)).mono ?_); rintro e w5 ⟨s5, rfl, h5, z5, b5⟩; have t5 : Below U.heap.size U w5 := (by exact beloA); have y5 := t5.size; have H5 := Lib.hid h5; clear h5)) | (go_at_call 46; ((with_reducible refine (specPutUT _ p1 (by omega)).mono ?_); rintro e w6 ⟨s6, rfl, h6, z6, b6⟩; have t6 : Below U.heap.size U w6 := (by exact beloA); have y6 := t6.size; have H6 := Lib.hid h6; clear h6; have c14 : ¬ (s5.size + s6.size > 9223372036854775807) := (by omega))) | (go_at_call 46; ((with_reducible refine (specPutUT _ n2 (by omega)).mono ?_); rintro e w7 ⟨s7, rfl, h7, z7, b7⟩; have t7 : Below U.heap.size U w7 := (by exact beloA); have y7 := t7.size; have H7 := Lib.hid h7; clear h7; have c21 : ¬ ((s5 ++ s6).size + s7.size > 9223372036854775807) := (by rw [ByteArray.size_append]; omega); have c23 : ¬ (s5.size + s6.size + s7.size > 9223372036854775807) := (by omega))))
  clear k0 k1 k2 k3 k4 c14 c21 c23
  obtain ⟨k0, k1, k2, k3, k4⟩ := hS.out w7 t7
  obtain ⟨s8, hs8⟩ : ∃ s', s5 ++ s6 ++ s7 = s' := ⟨_, rfl⟩
  have HS8 := Lib.hid (show s8.data.toList = uB p0 ++ uB p1 ++ uB n2 by rw [← hs8, bytes_app, bytes_app, H5.out, H6.out, H7.out])
  have hz8 : s8.size ≤ 30 := by rw [← hs8, ByteArray.size_append, ByteArray.size_append]; omega
  rw [hs8]
  clear hs8 z5 z6 z7 b5 b6 b7 t5 t6 y5 y6
  go_wp2_with fail
  go_loopw [3, 26] (fun sv iv wr => ∃ (k : Nat) (s : ByteArray), k ≤ n2 ∧ iv = .int .i64 k ∧ sv = .string s ∧ Hid (s.data.toList = uB p0 ++ uB p1 ++ uB n2 ++ sitesBy (ss.take k)) ∧ s.size ≤ 30 + 10 * k ∧ Below U.heap.size U wr) (fun _ iv _ => n2 - (intOf iv).toNat)
  case atStart => exact ⟨0, s8, Nat.zero_le _, rfl, rfl, Lib.hid (by rw [HS8.out]; simp [sitesBy]), by omega, t7⟩
  case round =>
    obtain ⟨k, s, hk, rfl, rfl, HS, hz, hb⟩ := hrel
    have hbw := hbU.trans (hb.mono hzU)
    by_cases hlt : k < n2
    · obtain ⟨b, o, rfl, _, _, hcp, hip⟩ := (h2.below hbw hh).int_at hlt
      have hkl : k < ss.length := by have := HL2.out; omega
      have hy0 := inB_iff.1 (List.all_eq_true.1 HSS.out _ (List.getElem_mem hkl))
      obtain ⟨y, hy⟩ : ∃ y : Nat, ss[k]'hkl = (y : Int) := ⟨(ss[k]).toNat, by omega⟩
      rw [hy] at hcp hip hy0
      have HY := Lib.hid hy
      have uy : IntKind.u64.wrap (y : Int) = (y : Int) := by rw [IntWalk.u64_in _ (by omega)]
      have ly : y ≤ 1000000 := by omega
      have my : (y : Int) % 18446744073709551616 = (y : Int) := by omega
      clear hy
      go_wp2_with fail
      refine (specPutUT wr y (by omega)).mono ?_
      rintro e w9 ⟨s9, rfl, h9, z9, b9⟩
      have H9 := Lib.hid h9
      have hcat : ¬ (s.size + s9.size > 9223372036854775807) := by omega
      clear h9
      have hb9 : Below U.heap.size U w9 := hb.trans (b9.mono hb.size)
      go_wp2_with fail
      obtain ⟨s', hs'⟩ : ∃ s', s ++ s9 = s' := ⟨_, rfl⟩
      have HS9 := Lib.hid (show s'.data.toList = uB p0 ++ uB p1 ++ uB n2 ++ sitesBy (ss.take (k + 1)) by rw [← hs', bytes_app, HS.out, H9.out, sitesBy_succ hkl, HY.out]; simp)
      have hz9 : s'.size ≤ 30 + 10 * (k + 1) := by rw [← hs', ByteArray.size_append]; omega
      rw [hs']
      clear hs'
      go_roundw
      case rel => exact ⟨k + 1, s', by omega, by go_num, rfl, HS9, hz9, hb9⟩
      case measure => simp [intOf]; omega
    have hkn : k = n2 := by omega
    subst hkn
    rw [List.take_of_length_le (by have := HL2.out; omega)] at HS
    clear hlt
    obtain ⟨k0, k1, k2, k3, k4⟩ := hS.out wr hb
    have u3 : IntKind.u64.wrap (n3 : Int) = (n3 : Int) := by rw [IntWalk.u64_in _ (by omega)]
    go_wp2_with fail
    refine (specPutUT wr n3 (by omega)).mono ?_
    rintro e w9 ⟨s9, rfl, h9, z9, b9⟩
    have H9 := Lib.hid h9
    have hcat : ¬ (s.size + s9.size > 9223372036854775807) := by omega
    have hb9 : Below U.heap.size U w9 := hb.trans (b9.mono hb.size)
    clear h9 k0 k1 k2 k3 k4 b9
    obtain ⟨k0, k1, k2, k3, k4⟩ := hS.out w9 hb9
    go_wp2_with fail
    obtain ⟨sa, hsa⟩ : ∃ s', s ++ s9 = s' := ⟨_, rfl⟩
    have HSA := Lib.hid (show sa.data.toList = uB p0 ++ uB p1 ++ uB k ++ sitesBy ss ++ uB n3 by rw [← hsa, bytes_app, HS.out, H9.out])
    have hza : sa.size ≤ 80 := by rw [← hsa, ByteArray.size_append]; omega
    rw [hsa]
    clear hsa hcat hbw hz z9
    go_loopw [3, 46] (fun sv iv wr => ∃ (j : Nat) (s : ByteArray), j ≤ n3 ∧ iv = .int .i64 j ∧ sv = .string s ∧ Hid (s.data.toList = uB p0 ++ uB p1 ++ uB k ++ sitesBy ss ++ uB n3 ++ inssBy (is.take j)) ∧ s.size ≤ 80 + 20 * j ∧ Below U.heap.size U wr) (fun _ iv _ => n3 - (intOf iv).toNat)
    case atStart => exact ⟨0, sa, Nat.zero_le _, rfl, rfl, Lib.hid (by rw [HSA.out]; simp [inssBy]), by omega, hb9⟩
    case round =>
      obtain ⟨j, s, hj, rfl, rfl, HS, hz, hb⟩ := hrel
      have hbw := hbU.trans (hb.mono hzU)
      by_cases hlt : j < n3
      · obtain ⟨b, o, x0, x1, rfl, _, _, hl0, i0, i1, d0, d1⟩ := (Ins_at (h3.below hbw hh) hlt)
        have hjl : j < is.length := by have := HL3.out; omega
        have hq := ins_num (List.all_eq_true.1 HII.out _ (List.getElem_mem hjl))
        rw [hl0] at hq
        simp only at hq
        obtain ⟨q, rfl⟩ := Int.eq_ofNat_of_zero_le hq.1
        have HX := Lib.hid hl0
        have lq : q ≤ 18 := by omega
        have uq : IntKind.u64.wrap (q : Int) = (q : Int) := by rw [IntWalk.u64_in _ (by omega)]
        clear hl0 hq
        go_upto_region 11 with fail
        obtain ⟨T, hT⟩ : ∃ T, T = wr.alloc (.cells #[.int .i64 q, .int .i64 x1] 67) := ⟨_, rfl⟩
        obtain ⟨Ib, hIb⟩ : ∃ N, wr.heap.size = N := ⟨_, rfl⟩
        have hbT : Below wr.heap.size wr T := by rw [hT]; exact belA
        have hI := Lib.hid (show ∀ V', Below T.heap.size T V' → V'.cell? ⟨Ib, 0, none⟩ = some (.int .i64 q) ∧ V'.cell? ⟨Ib, 1, none⟩ = some (.int .i64 x1) from fun V' hV' =>
          ⟨below_cell hV' (by rw [hT, ← hIb]; simp [go_sem]), below_cell hV' (by rw [hT, ← hIb]; simp [go_sem])⟩)
        have hbUT : Below U.heap.size U T := hb.trans (hbT.mono hb.size)
        have hzT := hbUT.size
        rw [← hT, hIb]
        clear hT d0 d1 hbT
        obtain ⟨m0, m1⟩ := hI.out T (Below.refl _ _)
        go_wp2_with fail
        refine (specPutUT T q (by omega)).mono ?_
        rintro e wb ⟨sb, rfl, hb1, zb, bb⟩
        have HB1 := Lib.hid hb1
        have hcat : ¬ (s.size + sb.size > 9223372036854775807) := by omega
        clear hb1 m0 m1
        obtain ⟨m0, m1⟩ := hI.out wb bb
        have hbUb : Below U.heap.size U wb := hbUT.trans (bb.mono hzT)
        have zbz := bb.size
        obtain ⟨sc, hsc⟩ : ∃ s', s ++ sb = s' := ⟨_, rfl⟩
        have hzc : sc.size ≤ 90 + 20 * j := by rw [← hsc, ByteArray.size_append]; omega
        obtain ⟨hn, hhn⟩ : ∃ b, hasNB (q : Int) = b := ⟨_, rfl⟩
        have HHN := Lib.hid hhn
        have HSC := Lib.hid (show sc.data.toList = uB p0 ++ uB p1 ++ uB k ++ sitesBy ss ++ uB n3 ++ inssBy (is.take j) ++ uB q by rw [← hsc, bytes_app, HS.out, HB1.out])
        clear hhn
        go_upto_region 12 with fail
        clear hsc hcat
        go_wp2_with fail
        refine (specL5HasN wb q).mono ?_
        rintro e wc ⟨rfl, bc⟩
        rw [HHN.out]
        have bTc : Below T.heap.size T wc := bb.trans (bc.mono zbz)
        have hbUc : Below U.heap.size U wc := hbUT.trans (bTc.mono hzT)
        clear m0 m1
        obtain ⟨m0, m1⟩ := hI.out wc bTc
        cases hn
        · have HSD := Lib.hid (show sc.data.toList = uB p0 ++ uB p1 ++ uB k ++ sitesBy ss ++ uB n3 ++ inssBy (is.take (j + 1)) by
            rw [HSC.out, inssBy_succ hjl, HX.out]
            unfold insBy
            rw [if_neg (by simp [HHN.out])]
            simp)
          go_wp2_with fail
          go_roundw
          case rel => exact ⟨j + 1, sc, by omega, by go_num, rfl, HSD, by omega, hbUc⟩
          case measure => simp [intOf]; omega
        · go_wp2_with fail
          refine (specPutST wc x1 i1).mono ?_
          rintro e wd ⟨sd, rfl, hd1, zd, bd⟩
          have HD1 := Lib.hid hd1
          have hcat : ¬ (sc.size + sd.size > 9223372036854775807) := by omega
          have hbUd : Below U.heap.size U wd := hbUc.trans (bd.mono hbUc.size)
          clear hd1
          go_wp2_with fail
          obtain ⟨se, hse⟩ : ∃ s', sc ++ sd = s' := ⟨_, rfl⟩
          have hze : se.size ≤ 80 + 20 * (j + 1) := by rw [← hse, ByteArray.size_append]; omega
          have HSE := Lib.hid (show se.data.toList = uB p0 ++ uB p1 ++ uB k ++ sitesBy ss ++ uB n3 ++ inssBy (is.take (j + 1)) by
            rw [← hse, bytes_app, HSC.out, HD1.out, inssBy_succ hjl, HX.out]
            unfold insBy
            rw [if_pos HHN.out]
            simp)
          rw [hse]
          clear hse
          go_roundw
          case rel => exact ⟨j + 1, se, by omega, by go_num, rfl, HSE, hze, hbUd⟩
          case measure => simp [intOf]; omega
      have hjn : j = n3 := by omega
      subst hjn
      rw [List.take_of_length_le (by have := HL3.out; omega)] at HS
      clear hlt k0 k1 k2 k3 k4
      obtain ⟨k0, k1, k2, k3, k4⟩ := hS.out wr hb
      go_wp2_with fail
      refine (specL7Bytes wr lo hi A4 n4 c4 rs j (h4.below hbw hh) (by have := hbw.size; omega) l4 (by omega) HRR.out).mono ?_
      rintro e wb ⟨sb, rfl, hb1, zb, bb⟩
      have HB1 := Lib.hid hb1
      have hcat : ¬ (s.size + sb.size > 9223372036854775807) := by omega
      clear hb1
      have hbwb : Below w.heap.size w wb := hbw.trans (bb.mono hbw.size)
      obtain ⟨sc, hsc⟩ : ∃ s', s ++ sb = s' := ⟨_, rfl⟩
      have hzc : sc.size ≤ 16000 := by rw [← hsc, ByteArray.size_append]; omega
      have HSC := Lib.hid (show sc.data.toList = cdB p0 p1 ss is rs by rw [← hsc, bytes_app, HS.out, HB1.out]; unfold cdB; rw [HL2.out, HL3.out])
      go_wp2_with fail
      clear hsc hcat
      go_ret
      exact ⟨sc, rfl, HSC.out, hzc, hbwb⟩
end Go.Proofs.YtgoinmdnpaknpaaGreat
