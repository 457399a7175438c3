/- An image as bytes: the program's walk. -/
import Derived.Test.YtcpjcgefkpgfjaaGreatImBy
import Derived.Test.YtcpjcgefkpgfjaaGreatTyIm
set_option linter.unusedVariables false
set_option linter.unusedSimpArgs false
set_option maxRecDepth 100000
namespace Go.Proofs.YtcpjcgefkpgfjaaGreat
open Go.RowKit
attribute [local irreducible] wpList
theorem sumN (l : List UInt8) : ∃ m : Nat, sumF l = (m : Int) ∧ m < 65521 := by
  have h := sumF_bd l
  exact ⟨(sumF l).toNat, by omega, by omega⟩
theorem endB_nat (m : Nat) (h : m < 65521) : endB (m : Int) = [UInt8.ofNat (m / 256), UInt8.ofNat (m % 256), 1] := by
  unfold endB
  rw [show ((m : Int) / 256).toNat = m / 256 by omega, show ((m : Int) % 256).toNat = m % 256 by omega]
/-- The text of the three bytes at an image's end. -/
theorem run_end_string (w : World) (g m a b : Nat) (h : m < 65521) (ha : m / 256 = a) (hb : m % 256 = b) (h0 : w.cell? ⟨g, 0, none⟩ = some (.int .u8 (a : Int))) (h1 : w.cell? ⟨g, 1, none⟩ = some (.int .u8 (b : Int))) (h2 : w.cell? ⟨g, 2, none⟩ = some (.int .u8 1)) :
    (convert 45 9 (.slice (some ⟨g, 0, none⟩) 3 3)).run Tryz.prog w = .ok (.string ⟨(endB (m : Int)).toArray⟩) w := by
  refine run_convert_bytes_back w _ _ 5 ⟨g, 0, none⟩ 3 (endB (m : Int)) Tryz.underlying45 Tryz.underlying5 Tryz.underlying9 (fun j hj => ?_)
  have e : (⟨g, 0, none⟩ : Addr).add j = ⟨g, j, none⟩ := by
    have e2 : ∀ o, (⟨g, o, none⟩ : Addr).add j = ⟨g, o + j, none⟩ := fun o => by unfold Addr.add; simp
    rw [e2 0, Nat.zero_add]
  rw [e]
  have hl : (endB (m : Int)).length = 3 := rfl
  rw [hl] at hj
  have hj3 : j = 0 ∨ j = 1 ∨ j = 2 := by omega
  simp only [endB_nat m h, ha, hb]
  rcases hj3 with rfl | rfl | rfl
  · rw [h0]; simp only [List.getElem_cons_zero]; rw [byte_nat (by omega)]
  · rw [h1]; simp only [List.getElem_cons_succ, List.getElem_cons_zero]; rw [byte_nat (by omega)]
  · rw [h2]; rfl
set_option maxHeartbeats 16000000 in
theorem implImageBytes (w : World) (lo hi : Nat) (A : Option Addr) (n c : Nat) (x : List Code) (h : Sl CodeR w lo hi A n c x) (hh : hi ≤ w.heap.size) (hg : goodI x = true) :
    Calls Tryz.prog 16 #[.agg #[.slice A n c]] w (RetSB (imR x) w) := by
  have HL := Lib.hid h.lenEq
  have hlen := sizedB_len (goodI_iff.1 hg).1
  rw [HL.out] at hlen
  have HG := Lib.hid hg
  have HCB := Lib.hid (fun (c : Code) (hc : c ∈ x) => good_cbB hg hc)
  obtain ⟨r, hr⟩ : ∃ r, imR x = r := ⟨_, rfl⟩
  have HR := Lib.hid hr
  rw [hr]
  clear hr hg
  have u0 : IntKind.u64.wrap (n : Int) = (n : Int) := by rw [IntWalk.u64_in _ (by omega)]
  go_enter Tryz.func16, Tryz.ntmps16
  go_upto_region 1 with fail
  obtain ⟨U, hU⟩ : ∃ U, U = w.alloc (.cells #[.slice A n c] 30) := ⟨_, rfl⟩
  obtain ⟨Nb, hNb⟩ : ∃ N, w.heap.size = N := ⟨_, rfl⟩
  have hbU : Below w.heap.size w U := by rw [hU]; exact belA
  have hS := Lib.hid (show ∀ V', Below U.heap.size U V' → V'.cell? ⟨Nb, 0, none⟩ = some (.slice A n c) from fun V' hV' => below_cell hV' (by rw [hU, ← hNb]; simp [go_sem]))
  have hzU := hbU.size
  rw [← hU, hNb]
  clear hU
  have k0 := hS.out U (Below.refl _ _)
  go_wp2_with fail
  refine (implPutUT U n (by omega)).mono ?_
  rintro e w5 ⟨s5, rfl, h5, z5, t5⟩
  have H5 := Lib.hid h5
  clear h5 k0
  have k0 := hS.out w5 t5
  go_wp2_with fail
  go_loopw [4, 18] (fun sv iv wr => ∃ (k : Nat) (s : ByteArray), k ≤ n ∧ iv = .int .i64 k ∧ sv = .string s ∧ Hid (s.data.toList = uB n ++ imC (x.take k)) ∧ s.size ≤ 10 + 2000 * k ∧ Below U.heap.size U wr) (fun _ iv _ => n - (intOf iv).toNat)
  case atStart => exact ⟨0, s5, Nat.zero_le _, rfl, rfl, Lib.hid (by rw [H5.out]; simp [imC]), by omega, t5⟩
  case round =>
    obtain ⟨k, s, hk, rfl, rfl, HS, hz, hb⟩ := hrel
    have hbw := hbU.trans (hb.mono hzU)
    have hzr := hbw.size
    have hzb := hb.size
    by_cases hlt : k < n
    · have hkx : k < x.length := by have := HL.out; omega
      obtain ⟨b', o', y0, y1, A2, n2, c2, t2, A3, n3, c3, t3, A4, n4, c4, t4, rfl, _, hbb', hl, j0, j1, h2, h3, h4, d0, d1, d2, d3, d4⟩ := Code_at (h.below hbw hh) hlt
      have hcb := Lib.hid (HCB.out (y0, y1, t2, t3, t4) (hl ▸ List.getElem_mem hkx))
      have hone := Lib.hid (fun (hn : ¬ (cbL (y0, y1, t2, t3, t4)).length ≤ 2000) => imS_one (x := x) (k := k) hkx (by rw [hl]; exact hn))
      have hsucc := imC_succ hkx
      rw [hl] at hsucc
      have HSU := Lib.hid hsucc
      have hn3 : n3 ≤ 300 := by have := (cbB_parts hcb.out).2.2.2.1.2; have := h3.lenEq; omega
      clear hl hsucc
      go_wp2_with fail
      refine (implCodeBytes _ lo hi y0 y1 A2 A3 A4 n2 c2 n3 c3 n4 c4 t2 t3 t4 (h2.below (show Below wr.heap.size wr _ by exact belA) (by omega)) (h3.below (show Below wr.heap.size wr _ by exact belA) (by omega)) (h4.below (show Below wr.heap.size wr _ by exact belA) (by omega)) (by first | omega | (simp; done) | (simp; omega)) (by omega)).mono ?_
      rintro e w6 ⟨rfl, b6⟩
      have t6 : Below wr.heap.size wr w6 := by exact belA
      clear b6 d0 d1 d2 d3 d4 h2 h3 h4
      obtain ⟨r1, hr1⟩ : ∃ r : ByteArray, (⟨(cbR (y0, y1, t2, t3, t4)).1.toArray⟩ : ByteArray) = r := ⟨_, rfl⟩
      obtain ⟨r2, hr2⟩ : ∃ r, (cbR (y0, y1, t2, t3, t4)).2 = r := ⟨_, rfl⟩
      rw [hr1, hr2]
      have hb6 := hb.trans (t6.mono hzb)
      by_cases hl2 : (cbL (y0, y1, t2, t3, t4)).length ≤ 2000
      · rw [cbR_yes hcb.out hl2] at hr1 hr2
        obtain rfl : r2 = true := hr2.symm
        have H1 := Lib.hid (show r1.data.toList = cbL (y0, y1, t2, t3, t4) by rw [← hr1])
        have hz1 : r1.size ≤ 2000 := by rw [← hr1]; exact hl2
        clear hr1 hr2 hl2
        have c31 : ¬ (s.size + r1.size > 9223372036854775807) := by omega
        go_wp2_with fail
        go_roundw
        case rel => exact ⟨k + 1, s ++ r1, by omega, by go_num, rfl, Lib.hid (by rw [bytes_app, HS.out, H1.out, HSU.out]; simp), by rw [ByteArray.size_append]; omega, hb6⟩
        case measure => simp [intOf]; omega
      · rw [cbR_long hcb.out hl2] at hr1 hr2
        obtain rfl : r2 = false := hr2.symm
        have hrr : r = ([], false) := by rw [← HR.out]; exact imR_long HG.out (hone.out hl2)
        clear hr1 hr2 hl2
        subst hrr
        go_wp2_with fail
        refine bodyPost_ret (v := .tuple #[.string ⟨#[]⟩, .bool false]) (by simp [results, Tryz.results16, go_sem]) rfl ?_
        exact ⟨rfl, hbU.trans (hb6.mono hzU)⟩
    have hkn : k = n := by omega
    subst hkn
    rw [List.take_of_length_le (by have := HL.out; omega)] at HS
    have HSL := Lib.hid (show s.data.toList = imL x by rw [HS.out]; unfold imL; rw [HL.out])
    clear hlt HS
    go_wp2_with fail
    refine (implsumOf s wr (by unfold maxLen; omega)).mono ?_
    rintro e w7 ⟨rfl, rfl⟩
    obtain ⟨m, hm, hm2⟩ := sumN s.data.toList
    rw [hm]
    rw [HSL.out] at hm
    have HM := Lib.hid hm
    clear hm
    obtain ⟨a, ha⟩ : ∃ a : Nat, m / 256 = a := ⟨_, rfl⟩
    obtain ⟨b, hbm⟩ : ∃ b : Nat, m % 256 = b := ⟨_, rfl⟩
    obtain ⟨se, hse⟩ : ∃ se : ByteArray, (⟨(endB (m : Int)).toArray⟩ : ByteArray) = se := ⟨_, rfl⟩
    have hzs : se.size = 3 := by rw [← hse]; rfl
    have hconv : (convert 45 9 (.slice (some ⟨wr.heap.size, 0, none⟩) 3 3)).run Tryz.prog (wr.alloc (.cells #[.int .u8 (a : Int), .int .u8 (b : Int), .int .u8 1] 5)) = .ok (.string se) (wr.alloc (.cells #[.int .u8 (a : Int), .int .u8 (b : Int), .int .u8 1] 5)) := by
      rw [← hse]
      exact run_end_string _ _ m a b hm2 ha hbm (by simp [go_sem]) (by simp [go_sem]) (by simp [go_sem])
    have HE := Lib.hid (show (s ++ se).data.toList = imS x by rw [bytes_app, HSL.out, ← hse]; unfold imS; rw [HM.out])
    have hLN : (imS x).length = s.size + 3 := by rw [imS_len, ← HSL.out, Array.length_toList]; rfl
    have sh1 : ((m : Int) / 256) = (a : Int) := by omega
    have sh2 : ((m : Int) % 256) = (b : Int) := by omega
    have sh3 : ((a : Int) % 256) = (a : Int) := by omega
    have sh4 : ((b : Int) % 256) = (b : Int) := by omega
    have c43 : ¬ (s.size + se.size > 9223372036854775807) := by omega
    clear ha hbm hse
    by_cases hlen2 : s.size + 3 ≤ 2000
    · have hrr : r = (imS x, true) := by rw [← HR.out]; exact imR_yes HG.out (by omega)
      have hi1 : ¬ (((s ++ se).size : Int) > 2000) := by rw [ByteArray.size_append]; omega
      have hi2 : ¬ ((s.size : Int) + (se.size : Int) > 2000) := by omega
      subst hrr
      go_wp2_with fail
      refine bodyPost_ret (v := .tuple #[.string (s ++ se), .bool true]) (by simp [results, Tryz.results16, go_sem]) rfl ?_
      have hs7 : s ++ se = ⟨(imS x).toArray⟩ := by rw [← HE.out]
      exact ⟨by rw [hs7], hbw.trans ((show Below wr.heap.size wr _ by exact belA).mono hzr)⟩
    · have hrr : r = ([], false) := by rw [← HR.out]; exact imR_long HG.out (by omega)
      have hi1 : ((s ++ se).size : Int) > 2000 := by rw [ByteArray.size_append]; omega
      have hi2 : ((s.size : Int) + (se.size : Int) > 2000) := by omega
      subst hrr
      go_wp2_with fail
      refine bodyPost_ret (v := .tuple #[.string ⟨#[]⟩, .bool false]) (by simp [results, Tryz.results16, go_sem]) rfl ?_
      exact ⟨rfl, hbw.trans ((show Below wr.heap.size wr _ by exact belA).mono hzr)⟩
end Go.Proofs.YtcpjcgefkpgfjaaGreat
