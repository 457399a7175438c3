/- A code as bytes: the program's walk. -/
import Derived.Test.YtgoinmdnpaknpaaGreatCdBy
import Derived.Test.YtgoinmdnpaknpaaGreatChk
import Derived.Test.YtgoinmdnpaknpaaGreatSized2
import Derived.Test.YtgoinmdnpaknpaaGreatKit1
set_option linter.unusedVariables false
set_option linter.unusedSimpArgs false
set_option maxRecDepth 100000
namespace Go.Proofs.YtgoinmdnpaknpaaGreat
open Go.RowKit
attribute [local irreducible] wpList
/-- Whether a code is put. -/
def cbB (c : Code) : Bool := codeSz c && rowsB c.2.2.2.2 c.2.2.2.1.length && c.2.2.1.all (fun n => inB n 0 1000000)
def cbL (c : Code) : List UInt8 := cdB c.1.toNat c.2.1.toNat c.2.2.1 c.2.2.2.1 c.2.2.2.2
/-- What CodeBytes tells. -/
def cbR (c : Code) : List UInt8 × Bool := if (cbB c && decide ((cbL c).length ≤ 2000)) = true then (cbL c, true) else ([], false)
def RetSB (r : List UInt8 × Bool) (w : World) (e : Ending) (w' : World) : Prop := e = .returned (.tuple #[.string ⟨r.1.toArray⟩, .bool r.2]) ∧ Below w.heap.size w w'
theorem cbB_parts {x0 x1 : Int} {ss : List Int} {is : List Ins} {rs : List Row} (h : cbB (x0, x1, ss, is, rs) = true) : (0 ≤ x0 ∧ x0 ≤ 2) ∧ (x0 ≤ x1 ∧ x1 ≤ 6) ∧ ss.length ≤ 4 ∧ (1 ≤ is.length ∧ is.length ≤ 300) ∧ rs.length ≤ 300 ∧ is.all insB = true ∧ rowsB rs is.length = true ∧ ss.all (fun n => inB n 0 1000000) = true := by
  unfold cbB codeSz at h
  simp only [Bool.and_eq_true, decide_eq_true_eq] at h
  obtain ⟨⟨⟨⟨⟨⟨⟨h1, h2⟩, h3⟩, h4⟩, h5⟩, h6⟩, h7⟩, h8⟩ := h
  have := inB_iff.1 h1
  have := inB_iff.1 h2
  have := inB_iff.1 h4
  exact ⟨by omega, by omega, h3, by omega, h5, h6, h7, h8⟩
theorem implCodeBytes1 (w : World) (x : Int) : Calls Tryz.prog 85 #[.int .i64 x] w (RetB (!inB x 0 1000000) w) := by
  go_enter Tryz.func85, Tryz.ntmps85
  go_wp2_with (go_at_call 65; refine (implWithin _ _ _ _).mono ?_; rintro e w2 ⟨rfl, rfl⟩)
  go_ret
  exact RetB.mk rfl (by exact belA)
set_option maxHeartbeats 16000000 in
theorem implCodeBytes (w : World) (lo hi : Nat) (x0 x1 : Int) (A2 A3 A4 : Option Addr) (n2 c2 n3 c3 n4 c4 : Nat) (ss : List Int) (is : List Ins) (rs : List Row) (h2 : Sl intR w lo hi A2 n2 c2 ss) (h3 : Sl InsR w lo hi A3 n3 c3 is) (h4 : Sl RowR w lo hi A4 n4 c4 rs) (hh : hi ≤ w.heap.size) (hn3 : n3 ≤ 1048576) :
    Calls Tryz.prog 64 #[.agg #[.int .i64 x0, .int .i64 x1, .slice A2 n2 c2, .slice A3 n3 c3, .slice A4 n4 c4]] w (RetSB (cbR (x0, x1, ss, is, rs)) w) := by
  have HL2 := Lib.hid h2.lenEq
  have HL3 := Lib.hid h3.lenEq
  have HL4 := Lib.hid h4.lenEq
  obtain ⟨r, hr⟩ : ∃ r, cbR (x0, x1, ss, is, rs) = r := ⟨_, rfl⟩
  have HR := Lib.hid hr
  rw [hr]
  clear hr
  obtain ⟨b1, hb1⟩ : ∃ b, codeSz (x0, x1, ss, is, rs) = b := ⟨_, rfl⟩
  obtain ⟨b2, hb2⟩ : ∃ b, rowsB rs n3 = b := ⟨_, rfl⟩
  obtain ⟨b3, hb3⟩ : ∃ b, ss.any (fun n => !inB n 0 1000000) = b := ⟨_, rfl⟩
  have B1 := Lib.hid hb1
  have B2 := Lib.hid hb2
  have B3 := Lib.hid hb3
  obtain ⟨g, hg⟩ : ∃ g, cbB (x0, x1, ss, is, rs) = g := ⟨_, rfl⟩
  have HGB := Lib.hid (show g = (b1 && b2 && !b3) by
    rw [← hg, ← hb1, ← hb2, ← hb3]
    unfold cbB
    simp only
    rw [HL3.out, ← any_not_all (fun n => inB n 0 1000000) ss])
  have HG := Lib.hid hg
  clear hb1 hb2 hb3 hg
  go_enter Tryz.func64, Tryz.ntmps64
  go_upto_region 1 with fail
  obtain ⟨U, hU⟩ : ∃ U, U = w.alloc (.cells #[.int .i64 x0, .int .i64 x1, .slice A2 n2 c2, .slice A3 n3 c3, .slice A4 n4 c4] 39) := ⟨_, rfl⟩
  obtain ⟨Nb, hNb⟩ : ∃ N, w.heap.size = N := ⟨_, rfl⟩
  have hbU : Below w.heap.size w U := by rw [hU]; exact belA
  have hS := Lib.hid (show ∀ V', Below U.heap.size U V' → V'.cell? ⟨Nb, 0, none⟩ = some (.int .i64 x0) ∧ V'.cell? ⟨Nb, 1, none⟩ = some (.int .i64 x1) ∧ V'.cell? ⟨Nb, 2, none⟩ = some (.slice A2 n2 c2) ∧ V'.cell? ⟨Nb, 3, none⟩ = some (.slice A3 n3 c3) ∧ V'.cell? ⟨Nb, 4, none⟩ = some (.slice A4 n4 c4) from fun V' hV' =>
    ⟨below_cell hV' (by rw [hU, ← hNb]; simp [go_sem]), below_cell hV' (by rw [hU, ← hNb]; simp [go_sem]), below_cell hV' (by rw [hU, ← hNb]; simp [go_sem]), below_cell hV' (by rw [hU, ← hNb]; simp [go_sem]), below_cell hV' (by rw [hU, ← hNb]; simp [go_sem])⟩)
  have hzU := hbU.size
  rw [← hU, hNb]
  clear hU
  have S2 := Lib.hid (h2.below hbU hh)
  have S3 := Lib.hid (h3.below hbU hh)
  have S4 := Lib.hid (h4.below hbU hh)
  go_cut [25] (fun v wx => v = .bool (!g) ∧ Below U.heap.size U wx)
  case first =>
    obtain ⟨k0, k1, k2, k3, k4⟩ := hS.out U (Below.refl _ _)
    have hgg := HGB.out
    subst hgg
    cases b1
    · go_wp2_with (go_at_call 68; ((with_reducible refine (implIsSizedCode U lo hi x0 x1 A2 A3 A4 n2 c2 n3 c3 n4 c4 ss is rs S2.out S3.out S4.out (by omega)).mono ?_); rintro e w5 ⟨rfl, t5⟩; rw [B1.out]))
      go_meet
      case rel => exact ⟨rfl, by exact beloA⟩
    · go_wp2_with fail
      refine (implIsSizedCode U lo hi x0 x1 A2 A3 A4 n2 c2 n3 c3 n4 c4 ss is rs S2.out S3.out S4.out (by omega)).mono ?_
      rintro e w5 ⟨rfl, t5⟩
      rw [B1.out]
      clear k0 k1 k2 k3 k4
      obtain ⟨k0, k1, k2, k3, k4⟩ := hS.out w5 t5
      have y5 := t5.size
      go_wp2_with fail
      refine (implAreRows w5 lo hi A4 n4 c4 rs n3 (S4.out.below t5 (by omega)) (by omega) hn3).mono ?_
      rintro e w6 ⟨rfl, t6⟩
      rw [B2.out]
      have t56 : Below U.heap.size U w6 := t5.trans (t6.mono y5)
      clear k0 k1 k2 k3 k4
      obtain ⟨k0, k1, k2, k3, k4⟩ := hS.out w6 t56
      have y6 := t56.size
      cases b2
      · go_wp2_with fail
        go_meet
        case rel => exact ⟨rfl, by exact beloA⟩
      · go_wp2_with fail
        refine (conFuncInt 85 #[] (fun n => !inB n 0 1000000) w6 lo hi n2 c2 A2 ss (S2.out.below t56 (by omega)) (by omega) (fun _ _ => by kernel_rfl) (fun W x _ _ _ => implCodeBytes1 W x)).mono ?_
        rintro e w7 ⟨rfl, t7⟩
        rw [B3.out]
        have t57 : Below U.heap.size U w7 := t56.trans (t7.mono y6)
        cases b3
        all_goals
          go_wp2_with fail
          go_meet
          case rel => exact ⟨rfl, t57⟩
  case rest =>
    obtain ⟨rfl, hbe⟩ := hcut
    have hwc : Below w.heap.size w wc := hbU.trans (hbe.mono hzU)
    cases g
    · have hrr : r = ([], false) := by rw [← HR.out]; unfold cbR; rw [HG.out]; rfl
      subst hrr
      go_wp2_with fail
      refine bodyPost_ret (v := .tuple #[.string ⟨#[]⟩, .bool false]) (by simp [results, Tryz.results64, go_sem]) rfl ?_
      exact ⟨rfl, hwc⟩
    obtain ⟨q0, q1, l2, l3, l4, hii, hrw, hss⟩ := cbB_parts HG.out
    obtain ⟨p0, rfl⟩ := Int.eq_ofNat_of_zero_le q0.1
    obtain ⟨p1, rfl⟩ := Int.eq_ofNat_of_zero_le (show 0 ≤ x1 by omega)
    have HSS := Lib.hid hss
    have HII := Lib.hid hii
    have HRW := Lib.hid (show rowsB rs n3 = true by rw [← HL3.out]; exact hrw)
    have m0 : p0 ≤ 2 := by omega
    have m1 : p1 ≤ 6 := by omega
    have m2 : n2 ≤ 4 := by have := HL2.out; omega
    have m3 : n3 ≤ 300 := by have := HL3.out; omega
    have m4 : n4 ≤ 300 := by have := HL4.out; omega
    clear hii hrw hss l2 l3 l4 q0 q1
    go_upto_region 4 with fail
    obtain ⟨V1, hV1⟩ : ∃ V1, V1 = wc.alloc (.cells #[.pointer none, .slice none 0 0] 103) := ⟨_, rfl⟩
    obtain ⟨Bb, hBb⟩ : ∃ N, wc.heap.size = N := ⟨_, rfl⟩
    have hV0 : Below Bb wc V1 := by rw [hV1, ← hBb]; exact belA
    have HBd := Lib.hid (show BldIs V1 Bb Bb [] by rw [hV1, ← hBb]; exact BldIs.new wc)
    have hzV : Bb ≤ V1.heap.size := by rw [hV1, ← hBb]; simp
    have hS2 := Lib.hid (show ∀ V', Below Bb wc V' → V'.cell? ⟨Nb, 0, none⟩ = some (.int .i64 p0) ∧ V'.cell? ⟨Nb, 1, none⟩ = some (.int .i64 p1) ∧ V'.cell? ⟨Nb, 2, none⟩ = some (.slice A2 n2 c2) ∧ V'.cell? ⟨Nb, 3, none⟩ = some (.slice A3 n3 c3) ∧ V'.cell? ⟨Nb, 4, none⟩ = some (.slice A4 n4 c4) from fun V' hV' =>
      hS.out V' (hbe.trans (hV'.mono (by rw [← hBb]; exact hbe.size))))
    have hwB := Lib.hid (show ∀ V', Below Bb wc V' → Below w.heap.size w V' from fun V' hV' => hwc.trans (hV'.mono (by rw [← hBb]; exact hwc.size)))
    have hBw : w.heap.size ≤ Bb := by rw [← hBb]; exact hwc.size
    have hBz : Bb ≤ wc.heap.size := by omega
    rw [← hV1, hBb]
    clear hV1 hBb hbe
    obtain ⟨k0, k1, k2, k3, k4⟩ := hS2.out V1 hV0
    have u0 : IntKind.u64.wrap (p0 : Int) = (p0 : Int) := by rw [IntWalk.u64_in _ (by omega)]
    have u1 : IntKind.u64.wrap (p1 : Int) = (p1 : Int) := by rw [IntWalk.u64_in _ (by omega)]
    have u2 : IntKind.u64.wrap (n2 : Int) = (n2 : Int) := by rw [IntWalk.u64_in _ (by omega)]
    go_region_held3 (fun V' => V'.cell? ⟨Nb, 0, none⟩ = some (.int .i64 p0) ∧ V'.cell? ⟨Nb, 1, none⟩ = some (.int .i64 p1) ∧ V'.cell? ⟨Nb, 2, none⟩ = some (.slice A2 n2 c2) ∧ V'.cell? ⟨Nb, 3, none⟩ = some (.slice A3 n3 c3) ∧ V'.cell? ⟨Nb, 4, none⟩ = some (.slice A4 n4 c4)) (exact hS2.out _ (show Below Bb wc _ by exact beloA))
      (first | (go_at_call 87; ((with_reducible refine (implPutUT _ p0 (by omega)).mono ?_); rintro e w5 ⟨s5, rfl, h5, z5, b5⟩; have r5 : Below V1.heap.size V1 w5 := (by exact beloA); have t5 : Below Bb wc w5 := hV0.trans (r5.mono hzV); have y5 := r5.size; have H5 := Lib.hid h5; clear h5)) | (go_at_call 87; ((with_reducible refine (implPutUT _ p1 (by omega)).mono ?_); rintro e w6 ⟨s6, rfl, h6, z6, b6⟩; have r6 : Below V1.heap.size V1 w6 := (by exact beloA); have t6 : Below Bb wc w6 := hV0.trans (r6.mono hzV); have y6 := r6.size; have H6 := Lib.hid h6; clear h6; have c14 : ¬ (s5.size + s6.size > 9223372036854775807) := (by omega))) | (go_at_call 87; ((with_reducible refine (implPutUT _ n2 (by omega)).mono ?_); rintro e w7 ⟨s7, rfl, h7, z7, b7⟩; have r7 : Below V1.heap.size V1 w7 := (by exact beloA); have t7 : Below Bb wc w7 := hV0.trans (r7.mono hzV); have y7 := r7.size; have H7 := Lib.hid h7; clear h7; have HB7 := Lib.hid (HBd.out.keep r7); have hsz7 : (s5 ++ s6 ++ s7).size ≤ 30 := (by rw [ByteArray.size_append, ByteArray.size_append]; omega); have c21 : ¬ ((s5 ++ s6).size + s7.size > 9223372036854775807) := (by rw [ByteArray.size_append]; omega); have c23 : ¬ (s5.size + s6.size + s7.size > 9223372036854775807) := (by omega))) | (go_at_call 86; ((with_reducible refine (bldWrite _ Bb Bb [] _ HB7.out (by simp only [List.length_nil]; omega) (by omega)).mono ?_); rintro e w8 ⟨rfl, h8, b8, o8⟩; have t8 : Below Bb wc w8 := t7.trans b8; have H8 := Lib.hid h8; clear h8)))
    obtain ⟨L8, hL8⟩ : ∃ l, [] ++ (s5 ++ s6 ++ s7).data.toList = l := ⟨_, rfl⟩
    have HL8 := Lib.hid (show L8 = uB p0 ++ uB p1 ++ uB n2 by rw [← hL8, bytes_app, bytes_app, H5.out, H6.out, H7.out]; simp)
    have hl8 : L8.length ≤ 30 := by
      rw [← hL8, List.nil_append, bytes_app, bytes_app]
      simp only [List.length_append, Array.length_toList]
      show s5.size + s6.size + s7.size ≤ 30
      omega
    rw [hL8] at H8
    clear hL8 z5 z6 z7 hsz7 c14 c21 c23 HB7 H5 H6 H7 y5 y6 y7 t5 t6 t7 r5 r6 r7 b5 b6 b7 o8 b8 k0 k1 k2 k3 k4
    obtain ⟨k0, k1, k2, k3, k4⟩ := hS2.out w8 t8
    go_wp2_with fail
    go_loopw [45] (fun iv wr => ∃ (k : Nat) (l : List UInt8), k ≤ n2 ∧ iv = .int .i64 k ∧ Hid (BldIs wr Bb Bb l) ∧ Hid (l = uB p0 ++ uB p1 ++ uB n2 ++ sitesBy (ss.take k)) ∧ l.length ≤ 30 + 10 * k ∧ Below Bb wc wr) (fun iv _ => n2 - (intOf iv).toNat)
    case atStart => exact ⟨0, L8, Nat.zero_le _, rfl, H8, Lib.hid (by rw [HL8.out]; simp [sitesBy]), by omega, t8⟩
    case round =>
      obtain ⟨k, l, hk, rfl, HB, HLk, hz, hb⟩ := hrel
      have hbw := hwB.out wr hb
      have hzr : Bb ≤ wr.heap.size := by have := hb.size; omega
      by_cases hlt : k < n2
      · obtain ⟨b, o, rfl, _, _, hcp, hip⟩ := (h2.below hbw hh).int_at hlt
        have hkl : k < ss.length := by have := HL2.out; omega
        have hy0 := inB_iff.1 (List.all_eq_true.1 HSS.out _ (List.getElem_mem hkl))
        obtain ⟨y, hy⟩ : ∃ y : Nat, ss[k]'hkl = (y : Int) := ⟨(ss[k]).toNat, by omega⟩
        rw [hy] at hcp hip hy0
        have HY := Lib.hid hy
        have uy : IntKind.u64.wrap (y : Int) = (y : Int) := by rw [IntWalk.u64_in _ (by omega)]
        have ly : y ≤ 1000000 := by omega
        have my : (y : Int) % 18446744073709551616 = (y : Int) := by omega
        clear hy
        go_wp2_with fail
        refine (implPutUT wr y (by omega)).mono ?_
        rintro e w9 ⟨s9, rfl, h9, z9, b9⟩
        have H9 := Lib.hid h9
        have HB9 := Lib.hid (HB.out.keep b9)
        have hz9 := b9.size
        have hb9 : Below Bb wc w9 := hb.trans (b9.mono hzr)
        clear h9
        go_wp2_with fail
        refine (bldWrite w9 Bb Bb l s9 HB9.out (by omega) (by omega)).mono ?_
        rintro e wa ⟨rfl, ha, ba, oa⟩
        have HBA := Lib.hid ha
        have hba : Below Bb wc wa := hb9.trans ba
        have HLA := Lib.hid (show l ++ s9.data.toList = uB p0 ++ uB p1 ++ uB n2 ++ sitesBy (ss.take (k + 1)) by rw [HLk.out, H9.out, sitesBy_succ hkl, HY.out]; simp)
        have hza : (l ++ s9.data.toList).length ≤ 30 + 10 * (k + 1) := by
          rw [List.length_append, Array.length_toList]
          show l.length + s9.size ≤ _
          omega
        clear ha oa ba
        go_wp2_with fail
        go_roundw
        case rel => exact ⟨k + 1, _, by omega, by go_num, HBA, HLA, hza, hba⟩
        case measure => simp [intOf]; omega
      have hkn : k = n2 := by omega
      subst hkn
      rw [List.take_of_length_le (by have := HL2.out; omega)] at HLk
      clear hlt k0 k1 k2 k3 k4
      obtain ⟨k0, k1, k2, k3, k4⟩ := hS2.out wr hb
      have u3 : IntKind.u64.wrap (n3 : Int) = (n3 : Int) := by rw [IntWalk.u64_in _ (by omega)]
      go_wp2_with fail
      refine (implPutUT wr n3 (by omega)).mono ?_
      rintro e w9 ⟨s9, rfl, h9, z9, b9⟩
      have H9 := Lib.hid h9
      have HB9 := Lib.hid (HB.out.keep b9)
      have hz9 := b9.size
      have hb9 : Below Bb wc w9 := hb.trans (b9.mono hzr)
      clear h9
      go_wp2_with fail
      refine (bldWrite w9 Bb Bb l s9 HB9.out (by omega) (by omega)).mono ?_
      rintro e wa ⟨rfl, ha, ba, oa⟩
      have HBA := Lib.hid ha
      have hba : Below Bb wc wa := hb9.trans ba
      obtain ⟨LA, hLA⟩ : ∃ L, l ++ s9.data.toList = L := ⟨_, rfl⟩
      have HLA := Lib.hid (show LA = uB p0 ++ uB p1 ++ uB k ++ sitesBy ss ++ uB n3 by rw [← hLA, HLk.out, H9.out])
      have hza : LA.length ≤ 80 := by
        rw [← hLA, List.length_append, Array.length_toList]
        show l.length + s9.size ≤ _
        omega
      rw [hLA] at HBA
      clear ha oa ba hLA k0 k1 k2 k3 k4 hbw hzr hz
      obtain ⟨k0, k1, k2, k3, k4⟩ := hS2.out wa hba
      go_wp2_with fail
      go_loopw [63] (fun iv wr => ∃ (j : Nat) (l : List UInt8), j ≤ n3 ∧ iv = .int .i64 j ∧ Hid (BldIs wr Bb Bb l) ∧ Hid (l = uB p0 ++ uB p1 ++ uB k ++ sitesBy ss ++ uB n3 ++ inssBy (is.take j)) ∧ l.length ≤ 80 + 20 * j ∧ Below Bb wc wr) (fun iv _ => n3 - (intOf iv).toNat)
      case atStart => exact ⟨0, LA, Nat.zero_le _, rfl, HBA, Lib.hid (by rw [HLA.out]; simp [inssBy]), by omega, hba⟩
      case round =>
        obtain ⟨j, l, hj, rfl, HB, HLj, hz, hb⟩ := hrel
        have hbw := hwB.out wr hb
        have hzr : Bb ≤ wr.heap.size := by have := hb.size; omega
        by_cases hlt : j < n3
        · obtain ⟨b, o, x0, x1, rfl, _, _, hl0, i0, i1, d0, d1⟩ := (Ins_at (h3.below hbw hh) hlt)
          have hjl : j < is.length := by have := HL3.out; omega
          have hq := ins_num (List.all_eq_true.1 HII.out _ (List.getElem_mem hjl))
          rw [hl0] at hq
          simp only at hq
          obtain ⟨q, rfl⟩ := Int.eq_ofNat_of_zero_le hq.1
          have HX := Lib.hid hl0
          have lq : q ≤ 18 := by omega
          have uq : IntKind.u64.wrap (q : Int) = (q : Int) := by rw [IntWalk.u64_in _ (by omega)]
          clear hl0 hq
          go_upto_region 14 with fail
          obtain ⟨T, hT⟩ : ∃ T, T = wr.alloc (.cells #[.int .i64 q, .int .i64 x1] 67) := ⟨_, rfl⟩
          obtain ⟨Ib, hIb⟩ : ∃ N, wr.heap.size = N := ⟨_, rfl⟩
          have hbT : Below wr.heap.size wr T := by rw [hT]; exact belA
          have hIo := Lib.hid (show T.heap[Ib]? = some (.cells #[.int .i64 q, .int .i64 x1] 67) by rw [hT, ← hIb]; exact alloc_new' rfl)
          have hIB : Bb ≤ Ib := by omega
          have hBbr : Bb < wr.heap.size := HB.out.lt
          have hIbB : some Ib ≠ some Bb := by intro e; injection e with e; omega
          have hbUT : Below Bb wc T := hb.trans (hbT.mono hzr)
          have hzT := hbT.size
          have HBT := Lib.hid (HB.out.keep hbT)
          rw [← hT, hIb]
          clear hT d0 d1 hbT hIb
          have m0 : T.cell? ⟨Ib, 0, none⟩ = some (.int .i64 q) := cell_of_row _ _ 0 _ _ _ hIo.out
          go_wp2_with fail
          refine (implPutUT T q (by omega)).mono ?_
          rintro e wb ⟨sb, rfl, hb1, zb, bb⟩
          have HB1 := Lib.hid hb1
          have HBb := Lib.hid (HBT.out.keep bb)
          have zbz := bb.size
          have hIo2 := Lib.hid (below_at bb (blk_size hIo.out) hIo.out)
          have hbb : Below Bb wc wb := hbUT.trans (bb.mono (by omega))
          clear hb1 m0
          go_wp2_with fail
          refine (bldWrite wb Bb Bb l sb HBb.out (by omega) (by omega)).mono ?_
          rintro e we ⟨rfl, he, be, oe⟩
          have HBE := Lib.hid he
          have hbe2 : Below Bb wc we := hbb.trans be
          have hIo3 := Lib.hid (oe Ib _ hIo2.out hIbB (fun c fz e => by injection e with e1 e2; exact absurd e2 (by decide)))
          have zbe := be.size
          obtain ⟨lc, hlc⟩ : ∃ l', l ++ sb.data.toList = l' := ⟨_, rfl⟩
          have HLC := Lib.hid (show lc = uB p0 ++ uB p1 ++ uB k ++ sitesBy ss ++ uB n3 ++ inssBy (is.take j) ++ uB q by rw [← hlc, HLj.out, HB1.out])
          have hzc : lc.length ≤ 90 + 20 * j := by
            rw [← hlc, List.length_append, Array.length_toList]
            show l.length + sb.size ≤ _
            omega
          rw [hlc] at HBE
          obtain ⟨hn, hhn⟩ : ∃ b, hasNB (q : Int) = b := ⟨_, rfl⟩
          have HHN := Lib.hid hhn
          clear he oe be hlc hhn
          have m0 : we.cell? ⟨Ib, 0, none⟩ = some (.int .i64 q) := cell_of_row _ _ 0 _ _ _ hIo3.out
          go_wp2_with fail
          refine (implHasN we q).mono ?_
          rintro e wf ⟨rfl, bf⟩
          rw [HHN.out]
          have HBF := Lib.hid (HBE.out.keep bf)
          have hIo4 := Lib.hid (below_at bf (blk_size hIo3.out) hIo3.out)
          have hbf : Below Bb wc wf := hbe2.trans (bf.mono (by omega))
          have zbf := bf.size
          clear m0
          cases hn
          · have HLD := Lib.hid (show lc = uB p0 ++ uB p1 ++ uB k ++ sitesBy ss ++ uB n3 ++ inssBy (is.take (j + 1)) by
              rw [HLC.out, inssBy_succ hjl, HX.out]
              unfold insBy
              rw [if_neg (by simp [HHN.out])]
              simp)
            go_wp2_with fail
            go_roundw
            case rel => exact ⟨j + 1, lc, by omega, by go_num, HBF, HLD, by omega, hbf⟩
            case measure => simp [intOf]; omega
          · have m1 : wf.cell? ⟨Ib, 1, none⟩ = some (.int .i64 x1) := cell_of_row _ _ 1 _ _ _ hIo4.out
            go_wp2_with fail
            refine (implPutST wf x1 i1).mono ?_
            rintro e wg ⟨sd, rfl, hd1, zd, bd⟩
            have HD1 := Lib.hid hd1
            have HBG := Lib.hid (HBF.out.keep bd)
            have zbg := bd.size
            have hbg : Below Bb wc wg := hbf.trans (bd.mono (by omega))
            clear hd1 m1
            go_wp2_with fail
            refine (bldWrite wg Bb Bb lc sd HBG.out (by omega) (by omega)).mono ?_
            rintro e wh ⟨rfl, hh2, bh, oh⟩
            have HBH := Lib.hid hh2
            have hbh : Below Bb wc wh := hbg.trans bh
            have HLE := Lib.hid (show lc ++ sd.data.toList = uB p0 ++ uB p1 ++ uB k ++ sitesBy ss ++ uB n3 ++ inssBy (is.take (j + 1)) by
              rw [HLC.out, HD1.out, inssBy_succ hjl, HX.out]
              unfold insBy
              rw [if_pos HHN.out]
              simp)
            have hze : (lc ++ sd.data.toList).length ≤ 80 + 20 * (j + 1) := by
              rw [List.length_append, Array.length_toList]
              show lc.length + sd.size ≤ _
              omega
            clear hh2 oh bh
            go_wp2_with fail
            go_roundw
            case rel => exact ⟨j + 1, _, by omega, by go_num, HBH, HLE, hze, hbh⟩
            case measure => simp [intOf]; omega
        have hjn : j = n3 := by omega
        subst hjn
        rw [List.take_of_length_le (by have := HL3.out; omega)] at HLj
        clear hlt k0 k1 k2 k3 k4
        obtain ⟨k0, k1, k2, k3, k4⟩ := hS2.out wr hb
        go_wp2_with fail
        refine (implRowsBytes wr lo hi A4 n4 c4 rs j (h4.below hbw hh) (by have := hbw.size; omega) m4 (by omega) HRW.out).mono ?_
        rintro e w9 ⟨s9, rfl, h9, z9, b9⟩
        have H9 := Lib.hid h9
        have HB9 := Lib.hid (HB.out.keep b9)
        have hz9 := b9.size
        have hb9 : Below Bb wc w9 := hb.trans (b9.mono hzr)
        clear h9
        go_wp2_with fail
        refine (bldWrite w9 Bb Bb l s9 HB9.out (by omega) (by omega)).mono ?_
        rintro e wa ⟨rfl, ha, ba, oa⟩
        have HBA := Lib.hid ha
        have hba : Below Bb wc wa := hb9.trans ba
        obtain ⟨LA, hLA⟩ : ∃ L, l ++ s9.data.toList = L := ⟨_, rfl⟩
        have HLA := Lib.hid (show LA = cbL ((p0 : Int), (p1 : Int), ss, is, rs) by
          rw [← hLA, HLj.out, H9.out]
          unfold cbL cdB
          simp only [Int.toNat_natCast]
          rw [HL2.out, HL3.out])
        have hza : LA.length ≤ 20000 := by
          rw [← hLA, List.length_append, Array.length_toList]
          show l.length + s9.size ≤ _
          omega
        rw [hLA] at HBA
        clear ha oa ba hLA
        have hbwa := hwB.out wa hba
        go_wp2_with fail
        refine (bldLen wa Bb Bb LA HBA.out).mono ?_
        rintro e wb ⟨rfl, rfl⟩
        by_cases hlen : LA.length ≤ 2000
        · have hi2 : ¬ ((LA.length : Int) > 2000) := by omega
          have hrr : r = (LA, true) := by
            rw [← HR.out]
            unfold cbR
            rw [if_pos, ← HLA.out]
            rw [HG.out, ← HLA.out]
            simpa using hlen
          have hne : LA ≠ [] := by
            intro e0
            have e1 := HLA.out.symm.trans e0
            unfold cbL cdB rwsB at e1
            simp only [List.append_eq_nil_iff] at e1
            have e2 := e1.1.1.1.1.1.1
            unfold uB at e2
            split at e2 <;> cases e2
          subst hrr
          go_wp2_with fail
          refine (bldString wb Bb Bb LA HBA.out hne).mono ?_
          rintro e wd ⟨rfl, bd⟩
          have hbd := hwB.out wd (hba.trans bd)
          go_wp2_with fail
          refine bodyPost_ret (v := .tuple #[.string ⟨LA.toArray⟩, .bool true]) (by simp [results, Tryz.results64, go_sem]) rfl ?_
          exact ⟨rfl, hbd⟩
        · have hi2 : ((LA.length : Int) > 2000) := by omega
          have hrr : r = ([], false) := by
            rw [← HR.out]
            unfold cbR
            rw [if_neg]
            rw [HG.out, ← HLA.out]
            simpa using hlen
          subst hrr
          go_wp2_with fail
          refine bodyPost_ret (v := .tuple #[.string ⟨#[]⟩, .bool false]) (by simp [results, Tryz.results64, go_sem]) rfl ?_
          exact ⟨rfl, hbwa⟩
end Go.Proofs.YtgoinmdnpaknpaaGreat
