/- Whether a frame of a good machine may recover: the reference's walk. -/
import Derived.Test.YtmnkgcjbckamnaaGreatMay2
import Derived.Test.YtmnkgcjbckamnaaGreatWaiting
import Derived.Deep.DeepCutAuto
import Derived.Deep.RegionHeld3
import Derived.Deep.QuietTactic
import Derived.BigQuiet
import Derived.BigGuardPart
set_option linter.unusedVariables false
set_option linter.unusedSimpArgs false
set_option maxRecDepth 100000
namespace Go.Proofs.YtmnkgcjbckamnaaGreat
open Go.RowKit
attribute [local irreducible] wpList
theorem wait_any {l : List Bool} {p : Int → Bool} : (waitF l).any p = (List.range l.length).any (fun i => l.getD i false && p (i : Int)) := by
  unfold waitF yes
  rw [List.any_reverse, List.any_map, List.any_filter, Nat.sub_zero, List.range_eq_range']
  rfl
theorem wait_mem {l : List Bool} {v : Int} (h : v ∈ waitF l) : 0 ≤ v ∧ v < (l.length : Int) := yes_mem l 0 v (by unfold waitF at h; simpa using h)
set_option maxHeartbeats 16000000 in
theorem specL9May1 (w : World) (lo hi : Nat) (A : Option Addr) (n c : Nat) (x : List Code) (A0 : Option Addr) (n0 c0 : Nat) (fs : List Frame) (A1 : Option Addr) (n1 c1 : Nat) (tr : List Int) (x2 x3 x4 x5 : Int) (A6 : Option Addr) (n6 c6 : Nat) (k : Nat)
    (h : Sl CodeR w lo hi A n c x) (h0 : Sl FrameR w lo hi A0 n0 c0 fs) (hh : hi ≤ w.heap.size) (hg : goodI x = true) (hm : vmB x fs tr x2 x3 x4 x5 = true) (hk : k < n0) :
    Calls Tryz.prog 64 #[.agg #[.slice A n c], .agg #[.slice A0 n0 c0, .slice A1 n1 c1, .int .i64 x2, .int .i64 x3, .int .i64 x4, .int .i64 x5, .slice A6 n6 c6], .int .i64 k] w (RetB (mayB x fs k) w) := by
  unfold vmB at hm
  simp only [Bool.and_eq_true] at hm
  obtain ⟨_, hm2⟩ := hm
  have HL0 := Lib.hid h0.lenEq
  have HL := Lib.hid h.lenEq
  have hn0b := h0.lenLe
  have hkf : k < fs.length := by have := HL0.out; omega
  obtain ⟨b, o, y0, y1, y2, A3, n3, c3, s3, A4, n4, c4, s4, A5, n5, c5, s5, y6, y7, y8, y9, y10, rfl, _, hbF, hl0, _, _, _, hS3, hS4, hS5, _, _, _, _, e0, e1, e2, e3, e4, e5, e6, e7, e8, e9, e10⟩ := Frame_at h0 hk
  have hfr := vfB_fr hm2 hkf
  have hmy := mayB_at (x := x) hkf hl0
  rw [hl0] at hfr
  have hp := frB_parts hfr
  simp only at hp hmy
  obtain ⟨⟨p1, p2⟩, _, _, p6⟩ := hp
  obtain ⟨j, rfl⟩ := Int.eq_ofNat_of_zero_le p1
  have hjx : j < x.length := by omega
  have hj : j < n := by have := HL.out; omega
  have hcd := codeD_at hjx
  obtain ⟨bc, oc, z0, z1, D2, m2, d2, t2, D3, m3, d3, t3, D4, m4, d4, t4, rfl, _, hbb, hlc, _, _, kS2, kS3, kS4, v0, v1, v2, v3, v4⟩ := Code_at h hj
  have hc0 := (goodI_iff.1 hg).2.2 _ (List.getElem_mem hjx)
  rw [hlc] at hc0 hcd
  rw [hcd] at p6
  simp only at p6
  have L2 := kS2.lenEq
  have L5 := hS5.lenEq
  have hnm0 : n5 = m2 := by omega
  have hnm := Lib.hid hnm0
  have hsi := Lib.hid (site_in hc0)
  obtain ⟨F, HF⟩ : ∃ F : Frame, F = (y0, (j : Int), y2, s3, s4, s5, y6, y7, y8, y9, y10) := ⟨_, rfl⟩
  have HF5 : F.2.2.2.2.2.1 = s5 := by rw [HF]
  have HFs : ∀ s, siteAt x F s = t2.getD s 0 := fun s => by rw [HF]; unfold siteAt; simp only; rw [hcd]
  have hmy2 : mayB x fs k = ((List.range n5).any (waitB x F) || upB x fs[k + 1]?) := by rw [hmy, HF, L5]
  have HW := Lib.hid (show ∀ s, waitB x F s = (s5.getD s false && recB (codeD x (t2.getD s 0))) from fun s => by unfold waitB; rw [HF5, HFs])
  obtain ⟨res, RES⟩ : ∃ r, mayB x fs k = r := ⟨_, rfl⟩
  rw [RES] at hmy2 ⊢
  have HR := Lib.hid hmy2
  have H2 := Lib.hid L2
  have H5 := Lib.hid L5
  have hm2h := Lib.hid hm2
  have hgh := Lib.hid hg
  have hlc' := Lib.hid hlc
  have hkI : (k : Int) < (n0 : Int) := by omega
  have hjI : (j : Int) < (n : Int) := by omega
  have hbFw : b < w.heap.size := by omega
  have hbbw : bc < w.heap.size := by omega
  have hn5b := hS5.lenLe
  have hn5s : n5 ≤ 1048576 := by have := (codeSz_all (sizedB_mem (goodI_iff.1 hg).1 _ (List.getElem_mem hjx))).2.2.1; rw [hlc] at this; simp only at this; omega
  clear hm2 hg hmy hmy2 hfr hl0 hcd hlc hc0 L2 L5 HF HF5 HFs RES p6 hnm0
  go_enter Tryz.func64, Tryz.ntmps64
  go_upto_region 2 with fail
  obtain ⟨V, hV⟩ : ∃ V, V = ((w.alloc (.cells #[.slice (some ⟨bc, oc, none⟩) n c] 35)).alloc (.cells #[.slice (some ⟨b, o, none⟩) n0 c0, .slice A1 n1 c1, .int .i64 x2, .int .i64 x3, .int .i64 x4, .int .i64 x5, .slice A6 n6 c6] 55)).alloc (.cells #[.int .i64 y0, .int .i64 j, .int .i64 y2, .slice A3 n3 c3, .slice A4 n4 c4, .slice A5 n5 c5, .int .i64 y6, .int .i64 y7, .int .i64 y8, .int .i64 y9, .bool y10] 95) := ⟨_, rfl⟩
  have hbV : Below w.heap.size w V := by rw [hV]; (repeat (first | with_reducible exact Below.refl _ _ | with_reducible assumption | with_reducible refine below_alloc ?_ _ | ((with_reducible refine Below.setCell ?_ ?_ _); rotate_left; (· first | exact Nat.le_refl _ | (simp; done) | (simp; omega))) | with_reducible refine below_drewN ?_ _ | with_reducible refine Below.drew ?_ | with_reducible refine below_then ?_ (by with_reducible assumption)))
  have hzV : w.heap.size + 3 ≤ V.heap.size := by rw [hV]; simp
  have v2 := below_cell hbV v2
  have hX := Lib.hid (show ∀ V', Below V.heap.size V V' → V'.cell? ⟨w.heap.size, 0, none⟩ = some (.slice (some ⟨bc, oc, none⟩) n c) ∧ V'.cell? ⟨w.heap.size + 1, 0, none⟩ = some (.slice (some ⟨b, o, none⟩) n0 c0) ∧ V'.cell? ⟨bc, oc + j * 5 + 2, none⟩ = some (.slice D2 m2 d2) ∧ V'.cell? ⟨w.heap.size + 1 + 1, 0, none⟩ = some (.int .i64 y0) ∧ V'.cell? ⟨w.heap.size + 1 + 1, 1, none⟩ = some (.int .i64 j) ∧ V'.cell? ⟨w.heap.size + 1 + 1, 2, none⟩ = some (.int .i64 y2) ∧ V'.cell? ⟨w.heap.size + 1 + 1, 3, none⟩ = some (.slice A3 n3 c3) ∧ V'.cell? ⟨w.heap.size + 1 + 1, 4, none⟩ = some (.slice A4 n4 c4) ∧ V'.cell? ⟨w.heap.size + 1 + 1, 5, none⟩ = some (.slice A5 n5 c5) ∧ V'.cell? ⟨w.heap.size + 1 + 1, 6, none⟩ = some (.int .i64 y6) ∧ V'.cell? ⟨w.heap.size + 1 + 1, 7, none⟩ = some (.int .i64 y7) ∧ V'.cell? ⟨w.heap.size + 1 + 1, 8, none⟩ = some (.int .i64 y8) ∧ V'.cell? ⟨w.heap.size + 1 + 1, 9, none⟩ = some (.int .i64 y9) ∧ V'.cell? ⟨w.heap.size + 1 + 1, 10, none⟩ = some (.bool y10) from (fun V' hV' => by
    refine ⟨below_cell hV' ?_, below_cell hV' ?_, below_cell hV' ?_, below_cell hV' ?_, below_cell hV' ?_, below_cell hV' ?_, below_cell hV' ?_, below_cell hV' ?_, below_cell hV' ?_, below_cell hV' ?_, below_cell hV' ?_, below_cell hV' ?_, below_cell hV' ?_, below_cell hV' ?_⟩ <;> first | assumption | (rw [hV]; simp [go_sem])))
  rw [← hV]
  clear hV v0 v1 v2 v3 v4 e0 e1 e2 e3 e4 e5 e6 e7 e8 e9 e10
  obtain ⟨sc0, sc1, sc2, sc3, sc4, sc5, sc6, sc7, sc8, sc9, sc10, sc11, sc12, sc13⟩ := hX.out V (Below.refl _ _)
  go_wp2_with fail
  refine (specL9Waiting _ lo hi y0 j y2 (.slice A3 n3 c3) (.slice A4 n4 c4) A5 n5 c5 s5 y6 y7 y8 y9 y10 (hS5.below hbV hh) (by omega) hn5s).mono ?_
  rintro e w2 ⟨Fw, Aw, nw, cw, rfl, how, hFw, hbw2⟩
  have hlw := hbw2.size
  have hSw := how.sl
  have hnwl := Lib.hid hSw.lenEq
  have hnwb := hSw.lenLe
  have hbw2V : Below w.heap.size w w2 := hbV.trans (hbw2.mono (by omega))
  clear how hFw sc0 sc1 sc2 sc3 sc4 sc5 sc6 sc7 sc8 sc9 sc10 sc11 sc12 sc13
  obtain ⟨sc0, sc1, sc2, sc3, sc4, sc5, sc6, sc7, sc8, sc9, sc10, sc11, sc12, sc13⟩ := hX.out w2 hbw2
  go_wp2_with fail
  have hWA := Lib.hid (show (List.range n5).any (waitB x F) = (waitF s5).any (fun v : Int => recB (codeD x (t2.getD v.toNat 0))) by
    rw [wait_any, H5.out]; congr 1; funext s; rw [HW.out]; rfl)
  go_loopw [18] (fun i wr => ∃ q : Nat, q ≤ nw ∧ i = .int .i64 q ∧ ((waitF s5).take q).any (fun v : Int => recB (codeD x (t2.getD v.toNat 0))) = false ∧ Below w2.heap.size w2 wr) (fun i _ => nw - (intOf i).toNat)
  case atStart => exact ⟨0, Nat.zero_le _, rfl, by simp, Below.refl _ _⟩
  case round =>
    obtain ⟨q, hq, rfl, ht0, hb⟩ := hrel
    have ht := Lib.hid ht0
    clear ht0 sc0 sc1 sc2 sc3 sc4 sc5 sc6 sc7 sc8 sc9 sc10 sc11 sc12 sc13
    have hbx : Below V.heap.size V wr := hbw2.trans (hb.mono hlw)
    obtain ⟨sc0, sc1, sc2, sc3, sc4, sc5, sc6, sc7, sc8, sc9, sc10, sc11, sc12, sc13⟩ := hX.out wr hbx
    have hbw : Below w.heap.size w wr := hbw2V.trans (hb.mono (by omega))
    have hbz := hbw.size
    have hbz2 := hb.size
    by_cases hlt : q < nw
    · have hqw : q < (waitF s5).length := by have := hnwl.out; omega
      obtain ⟨b5, o5, rfl, _, hb5l, hc5, _⟩ := (hSw.below hb (Nat.le_refl _)).int_at hlt
      have hvm := wait_mem (List.getElem_mem hqw)
      obtain ⟨v, VV⟩ := Int.eq_ofNat_of_zero_le hvm.1
      rw [VV] at hc5 hvm
      have hv2 : v < m2 := by have := hnm.out; have := H5.out; omega
      have hvt : v < t2.length := by have := H2.out; omega
      obtain ⟨b2, o2, rfl, _, hb2l, hcs, _⟩ := (kS2.below hbw hh).int_at hv2
      have hsb := hsi.out (t2[v]'hvt) (List.getElem_mem hvt)
      obtain ⟨s, SV⟩ := Int.eq_ofNat_of_zero_le hsb.1
      rw [SV] at hcs hsb
      have hsx : s < x.length := by omega
      have hsn : s < n := by have := HL.out; omega
      obtain ⟨rb, RB⟩ : ∃ r, (x[s]'hsx).2.2.2.1.any recI = r := ⟨_, rfl⟩
      have hwq := Lib.hid (show recB (codeD x (t2.getD ((waitF s5)[q]'hqw).toNat 0)) = rb by
        rw [VV, show t2.getD ((v : Int)).toNat 0 = (s : Int) by simp [List.getD, hvt, SV], codeD_at hsx, ← RB]; rfl)
      replace RB := Lib.hid RB
      have hqI : (q : Int) < (nw : Int) := by omega
      have hvI2 : (v : Int) < (m2 : Int) := by omega
      have hX2 := Lib.hid (show ∀ V', Below wr.heap.size wr V' → V'.cell? ⟨w.heap.size, 0, none⟩ = some (.slice (some ⟨bc, oc, none⟩) n c) ∧ V'.cell? ⟨w.heap.size + 1 + 1, 1, none⟩ = some (.int .i64 j) ∧ V'.cell? ⟨bc, oc + j * 5 + 2, none⟩ = some (.slice (some ⟨b2, o2, none⟩) m2 d2) ∧ V'.cell? ⟨b2, o2 + v, none⟩ = some (.int .i64 s) from (fun V' hV' => ⟨below_cell hV' sc0, below_cell hV' sc4, below_cell hV' sc2, below_cell hV' hcs⟩))
      clear SV hsb VV
      go_upto_region 5 with fail
      go_cut [33] (fun s_ wx => s_ = .bool rb ∧ Below wr.heap.size wr wx)
      case first =>
        as_aux_lemma =>
          obtain ⟨sd0, sd1, sd2, sd3⟩ := hX2.out wr (Below.refl _ _)
          go_region_held3 (fun V' => V'.cell? ⟨w.heap.size, 0, none⟩ = some (.slice (some ⟨bc, oc, none⟩) n c) ∧ V'.cell? ⟨w.heap.size + 1 + 1, 1, none⟩ = some (.int .i64 j) ∧ V'.cell? ⟨bc, oc + j * 5 + 2, none⟩ = some (.slice (some ⟨b2, o2, none⟩) m2 d2) ∧ V'.cell? ⟨b2, o2 + v, none⟩ = some (.int .i64 s)) (first | exact ⟨sd0, sd1, sd2, sd3⟩ | exact hX2.out _ (show Below wr.heap.size wr _ by (repeat (first | with_reducible exact Below.refl _ _ | with_reducible assumption | with_reducible refine below_alloc ?_ _ | ((with_reducible refine Below.setCell ?_ ?_ _); rotate_left; (· first | exact Nat.le_refl _ | omega | (simp; done) | (simp; omega))) | with_reducible refine below_drewN ?_ _ | with_reducible refine Below.drew ?_ | with_reducible refine below_then ?_ (by with_reducible assumption)))))
            (first | (go_at_call 105; ((with_reducible refine (specL9Recovers _ lo hi (some ⟨bc, oc, none⟩) n c x s (h.below (hbw.trans (show Below w.heap.size wr _ by (repeat (first | with_reducible exact Below.refl _ _ | with_reducible assumption | with_reducible refine below_alloc ?_ _ | ((with_reducible refine Below.setCell ?_ ?_ _); rotate_left; (· first | exact Nat.le_refl _ | omega | (simp; done) | (simp; omega))) | with_reducible refine below_drewN ?_ _ | with_reducible refine Below.drew ?_ | with_reducible refine below_then ?_ (by with_reducible assumption))))) hh) (by first | omega | (simp; done) | (simp; omega)) hsn).mono ?_); rintro e w7 ⟨rfl, hb8⟩; rw [RB.out])))
          all_goals
            go_wp2_with fail
            go_meet
            case rel => exact ⟨rfl, by (repeat (first | with_reducible exact Below.refl _ _ | with_reducible assumption | with_reducible refine below_alloc ?_ _ | ((with_reducible refine Below.setCell ?_ ?_ _); rotate_left; (· first | exact Nat.le_refl _ | omega | (simp; done) | (simp; omega))) | with_reducible refine below_drewN ?_ _ | with_reducible refine Below.drew ?_ | with_reducible refine below_then ?_ (by with_reducible assumption)))⟩
      case rest =>
        as_aux_lemma =>
          obtain ⟨rfl, hbe⟩ := hcut
          have hbw3 : Below w.heap.size w wc := hbw.trans (hbe.mono hbz)
          have hb3 : Below w2.heap.size w2 wc := hb.trans (hbe.mono hbz2)
          cases rb
          · have hs := Lib.hid (show ((waitF s5).take (q + 1)).any (fun v : Int => recB (codeD x (t2.getD v.toNat 0))) = false by rw [List.take_succ_eq_append_getElem hqw, List.any_append, ht.out]; simpa using hwq.out)
            go_wp2_with fail
            go_roundw
            case rel => exact ⟨q + 1, by omega, by go_num, hs.out, hb3⟩
            case measure => simp [intOf]; omega
          · have hn := Lib.hid (show res = true by rw [HR.out, hWA.out, List.any_eq_true.2 ⟨_, List.getElem_mem hqw, hwq.out⟩]; rfl)
            go_wp2_with fail
            go_ret
            exact RetB.mk hn.out.symm hbw3
    · have htn := ht.out
      rw [List.take_of_length_le (by have := hnwl.out; omega)] at htn
      have hru := Lib.hid (show res = upB x fs[k + 1]? by rw [HR.out, hWA.out, htn, Bool.false_or])
      clear htn
      have q1w : IntKind.i64.wrap ((k : Int) + 1) = (k : Int) + 1 := IntWalk.i64_in _ (by omega)
      by_cases hup : k + 1 < n0
      rotate_left
      · have hn := Lib.hid (show res = false by rw [hru.out, List.getElem?_eq_none (by have := HL0.out; omega)]; rfl)
        have hb1 : decide ((k : Int) + 1 < (n0 : Int)) = false := by simp; omega
        go_wp2_with fail
        go_quiet (fail)
        go_wp2_with fail
        go_ret
        exact RetB.mk hn.out.symm (by (repeat (first | with_reducible exact Below.refl _ _ | with_reducible assumption | with_reducible refine below_alloc ?_ _ | ((with_reducible refine Below.setCell ?_ ?_ _); rotate_left; (· first | exact Nat.le_refl _ | (simp; done) | (simp; omega))) | with_reducible refine below_drewN ?_ _ | with_reducible refine Below.drew ?_ | with_reducible refine below_then ?_ (by with_reducible assumption))))
      have hkf1 : k + 1 < fs.length := by have := HL0.out; omega
      obtain ⟨b', o', ya0, ya1, ya2, B3, na3, ca3, sa3, B4, na4, ca4, sa4, B5, na5, ca5, sa5, ya6, ya7, ya8, ya9, ya10, he, _, hbF', hla, _, _, _, hSa3, hSa4, hSa5, _, _, _, _, ea0, ea1, ea2, ea3, ea4, ea5, ea6, ea7, ea8, ea9, ea10⟩ := Frame_at (h0.below hbw hh) hup
      cases he
      have hfr1 := vfB_fr hm2h.out hkf1
      rw [hla] at hfr1
      have hp1 := frB_parts hfr1
      simp only at hp1
      obtain ⟨⟨r1, r2⟩, _⟩ := hp1
      obtain ⟨s, rfl⟩ := Int.eq_ofNat_of_zero_le r1
      have hsx : s < x.length := by omega
      have hsn : s < n := by have := HL.out; omega
      obtain ⟨rb, RB⟩ : ∃ r, (x[s]'hsx).2.2.2.1.any recI = r := ⟨_, rfl⟩
      have hn := Lib.hid (show res = (ya10 && rb) by
        rw [hru.out, List.getElem?_eq_getElem hkf1, hla]
        unfold upB
        simp only [frOff]
        rw [codeD_at hsx, ← RB]; rfl)
      replace RB := Lib.hid RB
      have hb1 : decide ((k : Int) + 1 < (n0 : Int)) = true := by simp; omega
      have hkI1 : (k : Int) + 1 < (n0 : Int) := by omega
      have hkI0 : (0 : Int) ≤ (k : Int) + 1 := by omega
      clear hla hfr1 r2
      cases ya10
      · go_wp2_with fail
        go_quiet (fail)
        go_wp2_with fail
        go_ret
        exact RetB.mk hn.out.symm (by (repeat (first | with_reducible exact Below.refl _ _ | with_reducible assumption | with_reducible refine below_alloc ?_ _ | ((with_reducible refine Below.setCell ?_ ?_ _); rotate_left; (· first | exact Nat.le_refl _ | (simp; done) | (simp; omega))) | with_reducible refine below_drewN ?_ _ | with_reducible refine Below.drew ?_ | with_reducible refine below_then ?_ (by with_reducible assumption))))
      · have hX3 := Lib.hid (show ∀ V', Below wr.heap.size wr V' → V'.cell? ⟨w.heap.size, 0, none⟩ = some (.slice (some ⟨bc, oc, none⟩) n c) ∧ V'.cell? ⟨w.heap.size + 1, 0, none⟩ = some (.slice (some ⟨b, o, none⟩) n0 c0) ∧ V'.cell? ⟨b, o + (k + 1) * 11 + 1, none⟩ = some (.int .i64 s) ∧ V'.cell? ⟨b, o + (k + 1) * 11 + 10, none⟩ = some (.bool true) from (fun V' hV' => ⟨below_cell hV' sc0, below_cell hV' sc1, below_cell hV' ea1, below_cell hV' ea10⟩))
        clear ea0 ea2 ea3 ea4 ea5 ea6 ea7 ea8 ea9
        go_wp2_with fail
        go_region_held3 (fun V' => V'.cell? ⟨w.heap.size, 0, none⟩ = some (.slice (some ⟨bc, oc, none⟩) n c) ∧ V'.cell? ⟨w.heap.size + 1, 0, none⟩ = some (.slice (some ⟨b, o, none⟩) n0 c0) ∧ V'.cell? ⟨b, o + (k + 1) * 11 + 1, none⟩ = some (.int .i64 s) ∧ V'.cell? ⟨b, o + (k + 1) * 11 + 10, none⟩ = some (.bool true)) (first | exact ⟨sc0, sc1, ea1, ea10⟩ | exact hX3.out _ (show Below wr.heap.size wr _ by (repeat (first | with_reducible exact Below.refl _ _ | with_reducible assumption | with_reducible refine below_alloc ?_ _ | ((with_reducible refine Below.setCell ?_ ?_ _); rotate_left; (· first | exact Nat.le_refl _ | omega | (simp; done) | (simp; omega))) | with_reducible refine below_drewN ?_ _ | with_reducible refine Below.drew ?_ | with_reducible refine below_then ?_ (by with_reducible assumption)))))
          (first | (go_at_call 105; ((with_reducible refine (specL9Recovers _ lo hi (some ⟨bc, oc, none⟩) n c x s (h.below (hbw.trans (show Below w.heap.size wr _ by (repeat (first | with_reducible exact Below.refl _ _ | with_reducible assumption | with_reducible refine below_alloc ?_ _ | ((with_reducible refine Below.setCell ?_ ?_ _); rotate_left; (· first | exact Nat.le_refl _ | omega | (simp; done) | (simp; omega))) | with_reducible refine below_drewN ?_ _ | with_reducible refine Below.drew ?_ | with_reducible refine below_then ?_ (by with_reducible assumption))))) hh) (by first | omega | (simp; done) | (simp; omega)) hsn).mono ?_); rintro e w7 ⟨rfl, hb8⟩; rw [RB.out])))
        all_goals
          have hb9 : Below wr.heap.size wr w7 := by (repeat (first | with_reducible exact Below.refl _ _ | with_reducible assumption | with_reducible refine below_alloc ?_ _ | ((with_reducible refine Below.setCell ?_ ?_ _); rotate_left; (· first | exact Nat.le_refl _ | omega | (simp; done) | (simp; omega))) | with_reducible refine below_drewN ?_ _ | with_reducible refine Below.drew ?_ | with_reducible refine below_then ?_ (by with_reducible assumption)))
          cases rb
          all_goals
            go_wp2_with fail
            go_ret
            exact RetB.mk hn.out.symm (below_then hbw (show Below wr.heap.size wr _ by (repeat (first | with_reducible exact Below.refl _ _ | with_reducible assumption | with_reducible refine below_alloc ?_ _ | ((with_reducible refine Below.setCell ?_ ?_ _); rotate_left; (· first | exact Nat.le_refl _ | omega | (simp; done) | (simp; omega))) | with_reducible refine below_drewN ?_ _ | with_reducible refine Below.drew ?_ | with_reducible refine below_then ?_ (by with_reducible assumption)))))
end Go.Proofs.YtmnkgcjbckamnaaGreat
