/- An image as bytes: the reference's walk, and both contracts as the law takes them. -/
import Derived.Test.YtcpjcgefkpgfjaaGreatImBi
set_option linter.unusedVariables false
set_option linter.unusedSimpArgs false
set_option maxRecDepth 100000
namespace Go.Proofs.YtcpjcgefkpgfjaaGreat
open Go.RowKit
attribute [local irreducible] wpList
set_option maxHeartbeats 8000000 in
theorem implImageBytesC (w : World) (A : Option Addr) (n c : Nat) (x : List Code) (h : Sl CodeR w 0 w.heap.size A n c x) (_ : mszLCode x ≤ 1048576) :
    Calls Tryz.prog 7 #[.agg #[.slice A n c]] w (RetV (.tuple #[.string ⟨(imR x).1.toArray⟩, .bool (imR x).2]) w) := by
  obtain ⟨r, hr⟩ : ∃ r, imR x = r := ⟨_, rfl⟩
  have HR := Lib.hid hr
  rw [hr]
  clear hr
  obtain ⟨g, hg⟩ : ∃ g, goodI x = g := ⟨_, rfl⟩
  have HG := Lib.hid hg
  clear hg
  go_enter Tryz.func7, Tryz.ntmps7
  go_upto_region 1 with fail
  obtain ⟨U, hU⟩ : ∃ U, U = w.alloc (.cells #[.slice A n c] 30) := ⟨_, rfl⟩
  obtain ⟨Nb, hNb⟩ : ∃ N, w.heap.size = N := ⟨_, rfl⟩
  have hbU : Below w.heap.size w U := by rw [hU]; exact belA
  have hS := Lib.hid (show ∀ V', Below U.heap.size U V' → V'.cell? ⟨Nb, 0, none⟩ = some (.slice A n c) from fun V' hV' => below_cell hV' (by rw [hU, ← hNb]; simp [go_sem]))
  have hzU := hbU.size
  rw [← hU, hNb]
  clear hU
  have k0 := hS.out U (Below.refl _ _)
  go_wp2_with fail
  refine (implIsImage U 0 w.heap.size A n c x (h.below hbU (Nat.le_refl _)) hzU).mono ?_
  rintro e w4 ⟨rfl, t4⟩
  rw [HG.out]
  clear k0
  have k0 := hS.out w4 t4
  have t4w := hbU.trans (t4.mono hzU)
  cases g
  · have hrr : r = ([], false) := by rw [← HR.out]; exact imR_no HG.out
    subst hrr
    go_wp2_with fail
    refine bodyPost_ret (v := .tuple #[.string ⟨#[]⟩, .bool false]) (by simp [results, Tryz.results7, go_sem]) rfl ?_
    exact ⟨rfl, t4w⟩
  go_wp2_with fail
  refine (implImageBytes w4 0 w.heap.size A n c x (h.below t4w (Nat.le_refl _)) t4w.size HG.out).mono ?_
  rintro e w5 ⟨rfl, b5⟩
  rw [HR.out]
  obtain ⟨r1, hr1⟩ : ∃ s : ByteArray, (⟨r.1.toArray⟩ : ByteArray) = s := ⟨_, rfl⟩
  obtain ⟨r2, hr2⟩ : ∃ s, r.2 = s := ⟨_, rfl⟩
  have HR1 := Lib.hid hr1
  have HR2 := Lib.hid hr2
  rw [hr1, hr2]
  clear hr1 hr2
  go_wp2_with fail
  refine bodyPost_ret (v := .tuple #[.string r1, .bool r2]) (by simp [results, Tryz.results7, go_sem]) rfl ?_
  exact ⟨by first | rfl | rw [HR1.out, HR2.out], t4w.trans (b5.mono t4w.size)⟩
set_option maxHeartbeats 16000000 in
theorem specImageBytesC (w : World) (A : Option Addr) (n c : Nat) (x : List Code) (h : Sl CodeR w 0 w.heap.size A n c x) (_ : mszLCode x ≤ 1048576) :
    Calls Tryz.prog 5 #[.agg #[.slice A n c]] w (RetV (.tuple #[.string ⟨(imR x).1.toArray⟩, .bool (imR x).2]) w) := by
  have HL := Lib.hid h.lenEq
  obtain ⟨r, hr⟩ : ∃ r, imR x = r := ⟨_, rfl⟩
  have HR := Lib.hid hr
  rw [hr]
  clear hr
  obtain ⟨g, hg⟩ : ∃ g, goodI x = g := ⟨_, rfl⟩
  have HG := Lib.hid hg
  clear hg
  go_enter Tryz.func5, Tryz.ntmps5
  go_upto_region 1 with fail
  obtain ⟨U, hU⟩ : ∃ U, U = w.alloc (.cells #[.slice A n c] 30) := ⟨_, rfl⟩
  obtain ⟨Nb, hNb⟩ : ∃ N, w.heap.size = N := ⟨_, rfl⟩
  have hbU : Below w.heap.size w U := by rw [hU]; exact belA
  have hS := Lib.hid (show ∀ V', Below U.heap.size U V' → V'.cell? ⟨Nb, 0, none⟩ = some (.slice A n c) from fun V' hV' => below_cell hV' (by rw [hU, ← hNb]; simp [go_sem]))
  have hzU := hbU.size
  rw [← hU, hNb]
  clear hU
  have k0 := hS.out U (Below.refl _ _)
  go_wp2_with fail
  refine (specGoodImage U 0 w.heap.size A n c x (h.below hbU (Nat.le_refl _)) hzU).mono ?_
  rintro e w4 ⟨rfl, t4⟩
  rw [HG.out]
  clear k0
  have k0 := hS.out w4 t4
  have t4w := hbU.trans (t4.mono hzU)
  have hz4 := t4.size
  cases g
  · have hrr : r = ([], false) := by rw [← HR.out]; exact imR_no HG.out
    subst hrr
    go_wp2_with fail
    refine bodyPost_ret (v := .tuple #[.string ⟨#[]⟩, .bool false]) (by simp [results, Tryz.results5, go_sem]) rfl ?_
    exact ⟨rfl, t4w⟩
  have hlen := sizedB_len (goodI_iff.1 HG.out).1
  rw [HL.out] at hlen
  have HCB := Lib.hid (fun (c : Code) (hc : c ∈ x) => good_cbB HG.out hc)
  have u0 : IntKind.u64.wrap (n : Int) = (n : Int) := by rw [IntWalk.u64_in _ (by omega)]
  have hm0 : (n : Int) % 18446744073709551616 = (n : Int) := by omega
  go_wp2_with fail
  refine (specPutUT w4 n (by omega)).mono ?_
  rintro e w5 ⟨s5, rfl, h5, z5, b5⟩
  have H5 := Lib.hid h5
  have t5 : Below U.heap.size U w5 := t4.trans (b5.mono hz4)
  clear h5 k0
  have k0 := hS.out w5 t5
  go_wp2_with fail
  go_loopw [4, 19] (fun sv iv wr => ∃ (k : Nat) (s : ByteArray), k ≤ n ∧ iv = .int .i64 k ∧ sv = .string s ∧ Hid (s.data.toList = uB n ++ imC (x.take k)) ∧ s.size ≤ 10 + 16000 * k ∧ Below U.heap.size U wr) (fun _ iv _ => n - (intOf iv).toNat)
  case atStart => exact ⟨0, s5, Nat.zero_le _, rfl, rfl, Lib.hid (by rw [H5.out]; simp [imC]), by omega, t5⟩
  case round =>
    obtain ⟨k, s, hk, rfl, rfl, HS, hz, hb⟩ := hrel
    have hbw := hbU.trans (hb.mono hzU)
    have hzr := hbw.size
    have hzb := hb.size
    by_cases hlt : k < n
    · have hkx : k < x.length := by have := HL.out; omega
      obtain ⟨b', o', y0, y1, A2, n2, c2, t2, A3, n3, c3, t3, A4, n4, c4, t4, rfl, _, hbb', hl, j0, j1, h2, h3, h4, d0, d1, d2, d3, d4⟩ := Code_at (h.below hbw (Nat.le_refl _)) hlt
      have hcb := HCB.out (y0, y1, t2, t3, t4) (hl ▸ List.getElem_mem hkx)
      have hsucc := imC_succ hkx
      rw [hl] at hsucc
      obtain ⟨q0, q1, l2, l3, l4, hii, hrw, hss⟩ := cbB_parts hcb
      obtain ⟨p0, rfl⟩ := Int.eq_ofNat_of_zero_le q0.1
      obtain ⟨p1, rfl⟩ := Int.eq_ofNat_of_zero_le (show 0 ≤ y1 by omega)
      have hsu2 : imC (x.take (k + 1)) = imC (x.take k) ++ cdB p0 p1 t2 t3 t4 := by rw [hsucc]; unfold cbL; simp only [Int.toNat_natCast]
      have HSU := Lib.hid hsu2
      have HSS := Lib.hid hss
      have HII := Lib.hid hii
      have e3 := h3.lenEq
      have HRW := Lib.hid (show rowsB t4 n3 = true by rw [← e3]; exact hrw)
      have m0 : p0 ≤ 2 := by omega
      have m1 : p1 ≤ 6 := by omega
      have m2 : n2 ≤ 4 := by have := h2.lenEq; omega
      have m3 : n3 ≤ 300 := by omega
      have m4 : n4 ≤ 300 := by have := h4.lenEq; omega
      clear hl hsucc hsu2 hcb hii hrw hss l2 l3 l4 q0 q1 e3
      go_wp2_with fail
      refine (specL12Code _ 0 w.heap.size p0 p1 A2 A3 A4 n2 c2 n3 c3 n4 c4 t2 t3 t4 (h2.below (show Below wr.heap.size wr _ by exact belA) (by omega)) (h3.below (show Below wr.heap.size wr _ by exact belA) (by omega)) (h4.below (show Below wr.heap.size wr _ by exact belA) (by omega)) (by first | omega | (simp; done) | (simp; omega)) m0 m1 m2 m3 m4 HSS.out HII.out HRW.out).mono ?_
      rintro e w6 ⟨s6, rfl, h6, z6, b6⟩
      have t6 : Below wr.heap.size wr w6 := by exact belA
      have H6 := Lib.hid h6
      clear b6 d0 d1 d2 d3 d4 h2 h3 h4 h6
      have hb6 := hb.trans (t6.mono hzb)
      have c31 : ¬ (s.size + s6.size > 9223372036854775807) := by omega
      go_wp2_with fail
      go_roundw
      case rel => exact ⟨k + 1, s ++ s6, by omega, by go_num, rfl, Lib.hid (by rw [bytes_app, HS.out, H6.out, HSU.out]; simp), by rw [ByteArray.size_append]; omega, hb6⟩
      case measure => simp [intOf]; omega
    have hkn : k = n := by omega
    subst hkn
    rw [List.take_of_length_le (by have := HL.out; omega)] at HS
    have HSL := Lib.hid (show s.data.toList = imL x by rw [HS.out]; unfold imL; rw [HL.out])
    clear hlt HS
    go_wp2_with fail
    refine (specL12Sum s wr (by unfold maxLen; omega)).mono ?_
    rintro e w7 ⟨rfl, rfl⟩
    obtain ⟨m, hm, hm2⟩ := sumN s.data.toList
    rw [hm]
    rw [HSL.out] at hm
    have HM := Lib.hid hm
    clear hm
    obtain ⟨a, ha⟩ : ∃ a : Nat, m / 256 = a := ⟨_, rfl⟩
    obtain ⟨b, hbm⟩ : ∃ b : Nat, m % 256 = b := ⟨_, rfl⟩
    obtain ⟨se, hse⟩ : ∃ se : ByteArray, (⟨(endB (m : Int)).toArray⟩ : ByteArray) = se := ⟨_, rfl⟩
    have hzs : se.size = 3 := by rw [← hse]; rfl
    have hconv : (convert 45 9 (.slice (some ⟨wr.heap.size, 0, none⟩) 3 3)).run Tryz.prog (wr.alloc (.cells #[.int .u8 (a : Int), .int .u8 (b : Int), .int .u8 1] 5)) = .ok (.string se) (wr.alloc (.cells #[.int .u8 (a : Int), .int .u8 (b : Int), .int .u8 1] 5)) := by
      rw [← hse]
      exact run_end_string _ _ m a b hm2 ha hbm (by simp [go_sem]) (by simp [go_sem]) (by simp [go_sem])
    have HE := Lib.hid (show (s ++ se).data.toList = imS x by rw [bytes_app, HSL.out, ← hse]; unfold imS; rw [HM.out])
    have hLN : (imS x).length = s.size + 3 := by rw [imS_len, ← HSL.out, Array.length_toList]; rfl
    have sh1 : ((m : Int) / 256) = (a : Int) := by omega
    have sh2 : ((m : Int) % 256) = (b : Int) := by omega
    have sh3 : ((a : Int) % 256) = (a : Int) := by omega
    have sh4 : ((b : Int) % 256) = (b : Int) := by omega
    have sh5 : (m : Int).tdiv 256 = (a : Int) := by rw [Int.tdiv_eq_ediv_of_nonneg (by omega)]; exact sh1
    have sh6 : (m : Int).tmod 256 = (b : Int) := by rw [Int.tmod_eq_emod_of_nonneg (by omega)]; exact sh2
    have c43 : ¬ (s.size + se.size > 9223372036854775807) := by omega
    clear ha hbm hse
    by_cases hlen2 : s.size + 3 ≤ 2000
    · have hrr : r = (imS x, true) := by rw [← HR.out]; exact imR_yes HG.out (by omega)
      have hi1 : ¬ (((s ++ se).size : Int) > 2000) := by rw [ByteArray.size_append]; omega
      have hi2 : ¬ ((s.size : Int) + (se.size : Int) > 2000) := by omega
      subst hrr
      go_wp2_with fail
      refine bodyPost_ret (v := .tuple #[.string (s ++ se), .bool true]) (by simp [results, Tryz.results5, go_sem]) rfl ?_
      have hs7 : s ++ se = ⟨(imS x).toArray⟩ := by rw [← HE.out]
      exact ⟨by rw [hs7], hbw.trans ((show Below wr.heap.size wr _ by exact belA).mono hzr)⟩
    · have hrr : r = ([], false) := by rw [← HR.out]; exact imR_long HG.out (by omega)
      have hi1 : ((s ++ se).size : Int) > 2000 := by rw [ByteArray.size_append]; omega
      have hi2 : ((s.size : Int) + (se.size : Int) > 2000) := by omega
      subst hrr
      go_wp2_with fail
      refine bodyPost_ret (v := .tuple #[.string ⟨#[]⟩, .bool false]) (by simp [results, Tryz.results5, go_sem]) rfl ?_
      exact ⟨rfl, hbw.trans ((show Below wr.heap.size wr _ by exact belA).mono hzr)⟩
end Go.Proofs.YtcpjcgefkpgfjaaGreat
