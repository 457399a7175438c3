/- Whether a frame of a good machine may recover: plain law; the program's walk. -/
import Derived.Test.YtmnkgcjbckamnaaGreatMay1
import Derived.Test.YtmnkgcjbckamnaaGreatRaise2
import Derived.Deep.DeepCutAuto
import Derived.Deep.RegionHeld3
import Derived.Deep.QuietTactic
import Derived.BigQuiet
import Derived.BigGuardPart
set_option linter.unusedVariables false
set_option linter.unusedSimpArgs false
set_option maxRecDepth 100000
namespace Go.Proofs.YtmnkgcjbckamnaaGreat
open Go.RowKit
attribute [local irreducible] wpList
def siteAt (x : Image) (f : Frame) (s : Nat) : Int := (codeD x f.2.1).2.2.1.getD s 0
def waitB (x : Image) (f : Frame) (s : Nat) : Bool := f.2.2.2.2.2.1.getD s false && recB (codeD x (siteAt x f s))
def upB (x : Image) : Option Frame → Bool
  | none => false
  | some g => frOff g && recB (codeD x g.2.1)
def mayB (x : Image) (fs : List Frame) (k : Nat) : Bool := (List.range (fs.getD k noFr).2.2.2.2.2.1.length).any (waitB x (fs.getD k noFr)) || upB x fs[k + 1]?
theorem mayB_at {x : Image} {fs : List Frame} {k : Nat} {f : Frame} (hk : k < fs.length) (hf : fs[k] = f) : mayB x fs k = ((List.range f.2.2.2.2.2.1.length).any (waitB x f) || upB x fs[k + 1]?) := by
  unfold mayB; rw [show fs.getD k noFr = f by simp [List.getD, hk, hf]]
theorem vfB_fr {x : Image} {fs : List Frame} {k : Nat} (hv : (List.range fs.length).all (vfB x fs) = true) (hk : k < fs.length) : frB x fs[k] = true := by
  have h1 := List.all_eq_true.1 hv k (List.mem_range.2 hk)
  rw [vfB_at hk rfl] at h1
  simp only [Bool.and_eq_true] at h1
  exact h1.1.1
theorem site_in {x : Image} {c : Code} (h : codeF x c = 0) : ∀ s, s ∈ c.2.2.1 → 0 ≤ s ∧ s < (x.length : Int) := by
  obtain ⟨h1, _, _, _⟩ := codeF_0 h
  have h2 : c.2.2.1.all (siteB x) = true := by
    by_cases h2 : c.2.2.1.all (siteB x) = true
    · exact h2
    · rw [codeF_2 h1 (by simpa using h2)] at h; omega
  intro s hs
  have := List.all_eq_true.1 h2 s hs
  unfold siteB at this
  rw [Bool.and_eq_true] at this
  have := inB_iff.1 this.1
  omega
theorem any_range_no {p : Nat → Bool} {k : Nat} (h : (List.range k).any p = false) (hk : p k = false) : (List.range (k + 1)).any p = false := by
  rw [List.range_succ, List.any_append, h]; simpa using hk
theorem any_range_yes {p : Nat → Bool} {k n : Nat} (hk : k < n) (h : p k = true) : (List.range n).any p = true := List.any_eq_true.2 ⟨k, List.mem_range.2 hk, h⟩
set_option maxHeartbeats 16000000 in
theorem implMayStop1 (w : World) (lo hi : Nat) (A : Option Addr) (n c : Nat) (x : List Code) (A0 : Option Addr) (n0 c0 : Nat) (fs : List Frame) (A1 : Option Addr) (n1 c1 : Nat) (tr : List Int) (x2 x3 x4 x5 : Int) (A6 : Option Addr) (n6 c6 : Nat) (k : Nat)
    (h : Sl CodeR w lo hi A n c x) (h0 : Sl FrameR w lo hi A0 n0 c0 fs) (hh : hi ≤ w.heap.size) (hg : goodI x = true) (hm : vmB x fs tr x2 x3 x4 x5 = true) (hk : k < n0) :
    Calls Tryz.prog 68 #[.agg #[.slice A n c], .agg #[.slice A0 n0 c0, .slice A1 n1 c1, .int .i64 x2, .int .i64 x3, .int .i64 x4, .int .i64 x5, .slice A6 n6 c6], .int .i64 k] w (RetB (mayB x fs k) w) := by
  unfold vmB at hm
  simp only [Bool.and_eq_true] at hm
  obtain ⟨_, hm2⟩ := hm
  have HL0 := Lib.hid h0.lenEq
  have HL := Lib.hid h.lenEq
  have hn0b := h0.lenLe
  have hkf : k < fs.length := by have := HL0.out; omega
  obtain ⟨b, o, y0, y1, y2, A3, n3, c3, s3, A4, n4, c4, s4, A5, n5, c5, s5, y6, y7, y8, y9, y10, rfl, _, hbF, hl0, _, _, _, hS3, hS4, hS5, _, _, _, _, e0, e1, e2, e3, e4, e5, e6, e7, e8, e9, e10⟩ := Frame_at h0 hk
  have hfr := vfB_fr hm2 hkf
  have hmy := mayB_at (x := x) hkf hl0
  rw [hl0] at hfr
  have hp := frB_parts hfr
  simp only at hp hmy
  obtain ⟨⟨p1, p2⟩, _, _, p6⟩ := hp
  obtain ⟨j, rfl⟩ := Int.eq_ofNat_of_zero_le p1
  have hjx : j < x.length := by omega
  have hj : j < n := by have := HL.out; omega
  have hcd := codeD_at hjx
  obtain ⟨bc, oc, z0, z1, D2, m2, d2, t2, D3, m3, d3, t3, D4, m4, d4, t4, rfl, _, hbb, hlc, _, _, kS2, kS3, kS4, v0, v1, v2, v3, v4⟩ := Code_at h hj
  have hc0 := (goodI_iff.1 hg).2.2 _ (List.getElem_mem hjx)
  rw [hlc] at hc0 hcd
  rw [hcd] at p6
  simp only at p6
  have L2 := kS2.lenEq
  have L5 := hS5.lenEq
  have hnm0 : n5 = m2 := by omega
  have hnm := Lib.hid hnm0
  have hsi := Lib.hid (site_in hc0)
  obtain ⟨F, HF⟩ : ∃ F : Frame, F = (y0, (j : Int), y2, s3, s4, s5, y6, y7, y8, y9, y10) := ⟨_, rfl⟩
  have HF5 : F.2.2.2.2.2.1 = s5 := by rw [HF]
  have HFs : ∀ s, siteAt x F s = t2.getD s 0 := fun s => by rw [HF]; unfold siteAt; simp only; rw [hcd]
  have hmy2 : mayB x fs k = ((List.range n5).any (waitB x F) || upB x fs[k + 1]?) := by rw [hmy, HF, L5]
  have HW := Lib.hid (show ∀ s, waitB x F s = (s5.getD s false && recB (codeD x (t2.getD s 0))) from fun s => by unfold waitB; rw [HF5, HFs])
  obtain ⟨res, RES⟩ : ∃ r, mayB x fs k = r := ⟨_, rfl⟩
  rw [RES] at hmy2 ⊢
  have HR := Lib.hid hmy2
  have H2 := Lib.hid L2
  have H5 := Lib.hid L5
  have hm2h := Lib.hid hm2
  have hgh := Lib.hid hg
  have hlc' := Lib.hid hlc
  have hkI : (k : Int) < (n0 : Int) := by omega
  have hjI : (j : Int) < (n : Int) := by omega
  have hbFw : b < w.heap.size := by omega
  have hbbw : bc < w.heap.size := by omega
  have hn5b := hS5.lenLe
  clear hm2 hg hmy hmy2 hfr hl0 hcd hlc hc0 L2 L5 HF HF5 HFs RES p6 hnm0
  go_enter Tryz.func68, Tryz.ntmps68
  go_upto_region 2 with fail
  obtain ⟨V, hV⟩ : ∃ V, V = ((w.alloc (.cells #[.slice (some ⟨bc, oc, none⟩) n c] 35)).alloc (.cells #[.slice (some ⟨b, o, none⟩) n0 c0, .slice A1 n1 c1, .int .i64 x2, .int .i64 x3, .int .i64 x4, .int .i64 x5, .slice A6 n6 c6] 55)).alloc (.cells #[.int .i64 y0, .int .i64 j, .int .i64 y2, .slice A3 n3 c3, .slice A4 n4 c4, .slice A5 n5 c5, .int .i64 y6, .int .i64 y7, .int .i64 y8, .int .i64 y9, .bool y10] 95) := ⟨_, rfl⟩
  have hbV : Below w.heap.size w V := by rw [hV]; (repeat (first | with_reducible exact Below.refl _ _ | with_reducible assumption | with_reducible refine below_alloc ?_ _ | ((with_reducible refine Below.setCell ?_ ?_ _); rotate_left; (· first | exact Nat.le_refl _ | (simp; done) | (simp; omega))) | with_reducible refine below_drewN ?_ _ | with_reducible refine Below.drew ?_ | with_reducible refine below_then ?_ (by with_reducible assumption)))
  have hzV : w.heap.size + 3 ≤ V.heap.size := by rw [hV]; simp
  have v2 := below_cell hbV v2
  have hX := Lib.hid (show ∀ V', Below V.heap.size V V' → V'.cell? ⟨w.heap.size, 0, none⟩ = some (.slice (some ⟨bc, oc, none⟩) n c) ∧ V'.cell? ⟨w.heap.size + 1, 0, none⟩ = some (.slice (some ⟨b, o, none⟩) n0 c0) ∧ V'.cell? ⟨w.heap.size + 1 + 1, 1, none⟩ = some (.int .i64 j) ∧ V'.cell? ⟨w.heap.size + 1 + 1, 5, none⟩ = some (.slice A5 n5 c5) ∧ V'.cell? ⟨bc, oc + j * 5 + 2, none⟩ = some (.slice D2 m2 d2) from (fun V' hV' => by
    refine ⟨below_cell hV' ?_, below_cell hV' ?_, below_cell hV' ?_, below_cell hV' ?_, below_cell hV' ?_⟩ <;> first | assumption | (rw [hV]; simp [go_sem])))
  rw [← hV]
  clear hV v0 v1 v2 v3 v4 e0 e1 e2 e3 e4 e5 e6 e7 e8 e9 e10
  obtain ⟨sc0, sc1, sc2, sc3, sc4⟩ := hX.out V (Below.refl _ _)
  go_wp2_with fail
  go_loopw [19] (fun i wr => ∃ q : Nat, q ≤ n5 ∧ i = .int .i64 q ∧ (List.range q).any (waitB x F) = false ∧ Below V.heap.size V wr) (fun i _ => n5 - (intOf i).toNat)
  case atStart => exact ⟨0, Nat.zero_le _, rfl, rfl, Below.refl _ _⟩
  case round =>
    obtain ⟨q, hq, rfl, ht0, hb⟩ := hrel
    have ht := Lib.hid ht0
    clear ht0 sc0 sc1 sc2 sc3 sc4
    obtain ⟨sc0, sc1, sc2, sc3, sc4⟩ := hX.out wr hb
    have hbw : Below w.heap.size w wr := hbV.trans (hb.mono (by omega))
    have hbz := hbw.size
    have hbzV := hb.size
    by_cases hlt : q < n5
    · skip
      obtain ⟨b5, o5, rfl, _, hb5l, hc5, _⟩ := (hS5.below hbw hh).bool_at hlt
      have hq2 : q < m2 := by have := hnm.out; omega
      have hqs : q < s5.length := by have := H5.out; omega
      have hqt : q < t2.length := by have := H2.out; omega
      obtain ⟨fl, FL⟩ : ∃ fl, s5[q]'hqs = fl := ⟨_, rfl⟩
      rw [FL] at hc5
      obtain ⟨b2, o2, rfl, _, hb2l, hcs, _⟩ := (kS2.below hbw hh).int_at hq2
      have hsb := hsi.out (t2[q]'hqt) (List.getElem_mem hqt)
      obtain ⟨s, SV⟩ := Int.eq_ofNat_of_zero_le hsb.1
      rw [SV] at hcs hsb
      have hsx : s < x.length := by omega
      have hsn : s < n := by have := HL.out; omega
      obtain ⟨bd, od, zz0, zz1, E2, me2, de2, se2, E3, me3, de3, se3, E4, me4, de4, se4, he, _, hbb', hls, _, _, kE2, kE3, kE4, w0, w1, w2, w3, w4⟩ := Code_at (h.below hbw hh) hsn
      cases he
      obtain ⟨rb, RB⟩ : ∃ r, se3.any recI = r := ⟨_, rfl⟩
      have hwq := Lib.hid (show waitB x F q = (fl && rb) by
        rw [HW.out, show s5.getD q false = fl by simp [List.getD, hqs, FL], show t2.getD q 0 = (s : Int) by simp [List.getD, hqt, SV], codeD_at hsx, hls, ← RB]; rfl)
      replace RB := Lib.hid RB
      have hsI : (s : Int) < (n : Int) := by omega
      have hqI : (q : Int) < (n5 : Int) := by omega
      have hqI2 : (q : Int) < (m2 : Int) := by omega
      have hX2 := Lib.hid (show ∀ V', Below wr.heap.size wr V' → V'.cell? ⟨w.heap.size, 0, none⟩ = some (.slice (some ⟨bc, oc, none⟩) n c) ∧ V'.cell? ⟨w.heap.size + 1 + 1, 1, none⟩ = some (.int .i64 j) ∧ V'.cell? ⟨bc, oc + j * 5 + 2, none⟩ = some (.slice (some ⟨b2, o2, none⟩) m2 d2) ∧ V'.cell? ⟨b2, o2 + q, none⟩ = some (.int .i64 s) ∧ V'.cell? ⟨bc, oc + s * 5, none⟩ = some (.int .i64 zz0) ∧ V'.cell? ⟨bc, oc + s * 5 + 1, none⟩ = some (.int .i64 zz1) ∧ V'.cell? ⟨bc, oc + s * 5 + 2, none⟩ = some (.slice E2 me2 de2) ∧ V'.cell? ⟨bc, oc + s * 5 + 3, none⟩ = some (.slice E3 me3 de3) ∧ V'.cell? ⟨bc, oc + s * 5 + 4, none⟩ = some (.slice E4 me4 de4) from (fun V' hV' => ⟨below_cell hV' sc0, below_cell hV' sc2, below_cell hV' sc4, below_cell hV' hcs, below_cell hV' w0, below_cell hV' w1, below_cell hV' w2, below_cell hV' w3, below_cell hV' w4⟩))
      clear hls FL SV hsb
      go_upto_region 5 with fail
      go_cut [41] (fun s_ wx => s_ = .bool (fl && rb) ∧ Below wr.heap.size wr wx)
      case first =>
        as_aux_lemma =>
          cases fl
          · go_wp2_with fail
            go_quiet (fail)
            go_wp2_with fail
            go_meet
            case rel => exact ⟨rfl, by (repeat (first | with_reducible exact Below.refl _ _ | with_reducible assumption | with_reducible refine below_alloc ?_ _ | ((with_reducible refine Below.setCell ?_ ?_ _); rotate_left; (· first | exact Nat.le_refl _ | (simp; done) | (simp; omega))) | with_reducible refine below_drewN ?_ _ | with_reducible refine Below.drew ?_ | with_reducible refine below_then ?_ (by with_reducible assumption)))⟩
          · obtain ⟨sd0, sd1, sd2, sd3, sd4, sd5, sd6, sd7, sd8⟩ := hX2.out wr (Below.refl _ _)
            go_region_held3 (fun V' => V'.cell? ⟨w.heap.size, 0, none⟩ = some (.slice (some ⟨bc, oc, none⟩) n c) ∧ V'.cell? ⟨w.heap.size + 1 + 1, 1, none⟩ = some (.int .i64 j) ∧ V'.cell? ⟨bc, oc + j * 5 + 2, none⟩ = some (.slice (some ⟨b2, o2, none⟩) m2 d2) ∧ V'.cell? ⟨b2, o2 + q, none⟩ = some (.int .i64 s) ∧ V'.cell? ⟨bc, oc + s * 5, none⟩ = some (.int .i64 zz0) ∧ V'.cell? ⟨bc, oc + s * 5 + 1, none⟩ = some (.int .i64 zz1) ∧ V'.cell? ⟨bc, oc + s * 5 + 2, none⟩ = some (.slice E2 me2 de2) ∧ V'.cell? ⟨bc, oc + s * 5 + 3, none⟩ = some (.slice E3 me3 de3) ∧ V'.cell? ⟨bc, oc + s * 5 + 4, none⟩ = some (.slice E4 me4 de4)) (first | exact ⟨sd0, sd1, sd2, sd3, sd4, sd5, sd6, sd7, sd8⟩ | exact hX2.out _ (show Below wr.heap.size wr _ by (repeat (first | with_reducible exact Below.refl _ _ | with_reducible assumption | with_reducible refine below_alloc ?_ _ | ((with_reducible refine Below.setCell ?_ ?_ _); rotate_left; (· first | exact Nat.le_refl _ | omega | (simp; done) | (simp; omega))) | with_reducible refine below_drewN ?_ _ | with_reducible refine Below.drew ?_ | with_reducible refine below_then ?_ (by with_reducible assumption)))))
              (first | (go_at_call 109; ((with_reducible refine (implRecovers _ lo hi zz0 zz1 (.slice E2 me2 de2) (.slice E4 me4 de4) E3 me3 de3 se3 (kE3.below (show Below wr.heap.size wr _ by (repeat (first | with_reducible exact Below.refl _ _ | with_reducible assumption | with_reducible refine below_alloc ?_ _ | ((with_reducible refine Below.setCell ?_ ?_ _); rotate_left; (· first | exact Nat.le_refl _ | omega | (simp; done) | (simp; omega))) | with_reducible refine below_drewN ?_ _ | with_reducible refine Below.drew ?_ | with_reducible refine below_then ?_ (by with_reducible assumption)))) (by omega)) (by first | omega | (simp; done) | (simp; omega))).mono ?_); rintro e w7 ⟨rfl, hb8⟩; rw [RB.out])))
            all_goals
              go_wp2_with fail
              go_meet
              case rel => exact ⟨by cases rb <;> rfl, by (repeat (first | with_reducible exact Below.refl _ _ | with_reducible assumption | with_reducible refine below_alloc ?_ _ | ((with_reducible refine Below.setCell ?_ ?_ _); rotate_left; (· first | exact Nat.le_refl _ | omega | (simp; done) | (simp; omega))) | with_reducible refine below_drewN ?_ _ | with_reducible refine Below.drew ?_ | with_reducible refine below_then ?_ (by with_reducible assumption)))⟩
      case rest =>
        as_aux_lemma =>
          obtain ⟨rfl, hbe⟩ := hcut
          have hbV2 : Below V.heap.size V wc := hb.trans (hbe.mono hbzV)
          have hbw2 : Below w.heap.size w wc := hbw.trans (hbe.mono hbz)
          obtain ⟨t, T⟩ : ∃ t, (fl && rb) = t := ⟨_, rfl⟩
          have hwq2 := Lib.hid (hwq.out.trans T)
          rw [T]
          clear T
          cases t
          · have hs := Lib.hid (any_range_no ht.out hwq2.out)
            go_wp2_with fail
            go_roundw
            case rel => exact ⟨q + 1, by omega, by go_num, hs.out, hbV2⟩
            case measure => simp [intOf]; omega
          · have hn := Lib.hid (show res = true by rw [HR.out, any_range_yes (p := waitB x F) hlt hwq2.out]; rfl)
            go_wp2_with fail
            go_ret
            exact RetB.mk hn.out.symm hbw2
    · have htn := ht.out
      rw [show q = n5 by omega] at htn
      have hru := Lib.hid (show res = upB x fs[k + 1]? by rw [HR.out, htn, Bool.false_or])
      clear htn
      have q1w : IntKind.i64.wrap ((k : Int) + 1) = (k : Int) + 1 := IntWalk.i64_in _ (by omega)
      by_cases hup : k + 1 < n0
      rotate_left
      · have hn := Lib.hid (show res = false by rw [hru.out, List.getElem?_eq_none (by have := HL0.out; omega)]; rfl)
        have hb1 : ((k : Int) + 1 == (n0 : Int)) = true := by simp; omega
        go_wp2_with fail
        go_ret
        exact RetB.mk hn.out.symm hbw
      have hkf1 : k + 1 < fs.length := by have := HL0.out; omega
      obtain ⟨b', o', ya0, ya1, ya2, B3, na3, ca3, sa3, B4, na4, ca4, sa4, B5, na5, ca5, sa5, ya6, ya7, ya8, ya9, ya10, he, _, hbF', hla, _, _, _, hSa3, hSa4, hSa5, _, _, _, _, ea0, ea1, ea2, ea3, ea4, ea5, ea6, ea7, ea8, ea9, ea10⟩ := Frame_at (h0.below hbw hh) hup
      cases he
      have hfr1 := vfB_fr hm2h.out hkf1
      rw [hla] at hfr1
      have hp1 := frB_parts hfr1
      simp only at hp1
      obtain ⟨⟨r1, r2⟩, _⟩ := hp1
      obtain ⟨s, rfl⟩ := Int.eq_ofNat_of_zero_le r1
      have hsx : s < x.length := by omega
      have hsn : s < n := by have := HL.out; omega
      obtain ⟨bd, od, zz0, zz1, E2, me2, de2, se2, E3, me3, de3, se3, E4, me4, de4, se4, he, _, hbb', hls, _, _, kE2, kE3, kE4, w0, w1, w2, w3, w4⟩ := Code_at (h.below hbw hh) hsn
      cases he
      obtain ⟨rb, RB⟩ : ∃ r, se3.any recI = r := ⟨_, rfl⟩
      have hn := Lib.hid (show res = (ya10 && rb) by
        rw [hru.out, List.getElem?_eq_getElem hkf1, hla]
        unfold upB
        simp only [frOff]
        rw [codeD_at hsx, hls, ← RB]; rfl)
      replace RB := Lib.hid RB
      have hb1 : ((k : Int) + 1 == (n0 : Int)) = false := by simp; omega
      have hkI1 : (k : Int) + 1 < (n0 : Int) := by omega
      have hkI0 : (0 : Int) ≤ (k : Int) + 1 := by omega
      have hsI : (s : Int) < (n : Int) := by omega
      have y0w : w.heap.size < wr.heap.size := by omega
      have y1w : w.heap.size + 1 < wr.heap.size := by omega
      have y2w : bc < wr.heap.size := by omega
      clear hla hls hfr1 r2
      cases ya10
      · go_wp2_with fail
        go_ret
        exact RetB.mk hn.out.symm (by (repeat (first | with_reducible exact Below.refl _ _ | with_reducible assumption | with_reducible refine below_alloc ?_ _ | ((with_reducible refine Below.setCell ?_ ?_ _); rotate_left; (· first | exact Nat.le_refl _ | (simp; done) | (simp; omega))) | with_reducible refine below_drewN ?_ _ | with_reducible refine Below.drew ?_ | with_reducible refine below_then ?_ (by with_reducible assumption))))
      · go_wp2_with fail
        refine (implRecovers _ lo hi zz0 zz1 (.slice E2 me2 de2) (.slice E4 me4 de4) E3 me3 de3 se3 (kE3.below (show Below wr.heap.size wr _ by (repeat (first | with_reducible exact Below.refl _ _ | with_reducible assumption | with_reducible refine below_alloc ?_ _ | ((with_reducible refine Below.setCell ?_ ?_ _); rotate_left; (· first | exact Nat.le_refl _ | (simp; done) | (simp; omega))) | with_reducible refine below_drewN ?_ _ | with_reducible refine Below.drew ?_ | with_reducible refine below_then ?_ (by with_reducible assumption)))) (by omega)) (by first | omega | (simp; done) | (simp; omega))).mono ?_
        rintro e w7 ⟨rfl, hb8⟩
        rw [RB.out]
        have hb9 : Below w.heap.size w w7 := hbw.trans ((show Below wr.heap.size wr w7 by (repeat (first | with_reducible exact Below.refl _ _ | with_reducible assumption | with_reducible refine below_alloc ?_ _ | ((with_reducible refine Below.setCell ?_ ?_ _); rotate_left; (· first | exact Nat.le_refl _ | (simp; done) | (simp; omega))) | with_reducible refine below_drewN ?_ _ | with_reducible refine Below.drew ?_ | with_reducible refine below_then ?_ (by with_reducible assumption)))).mono hbz)
        cases rb
        all_goals
          go_wp2_with fail
          go_ret
          exact RetB.mk hn.out.symm hb9
end Go.Proofs.YtmnkgcjbckamnaaGreat
