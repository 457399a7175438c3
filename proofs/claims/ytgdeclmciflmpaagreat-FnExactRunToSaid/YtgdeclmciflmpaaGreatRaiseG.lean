/- Whether a machine whose last frame is good is at an instruction that raises a panic: walks of both sides. -/
import Derived.Test.YtgdeclmciflmpaaGreatGoodVP
import Derived.Deep.DeepCutAuto
import Derived.Deep.RegionHeld3
import Derived.BigGuardPart
set_option linter.unusedVariables false
set_option linter.unusedSimpArgs false
set_option maxRecDepth 100000
namespace Go.Proofs.YtgdeclmciflmpaaGreat
open Go.RowKit
attribute [local irreducible] wpList
def rzB (x : Image) (f : Frame) : Bool :=
  (insAt (codeD x f.2.1).2.2.2.1 f.2.2.1).1 == 13 || ((insAt (codeD x f.2.1).2.2.2.1 f.2.2.1).1 == 4 && (insAt (codeD x f.2.1).2.2.2.1 f.2.2.1).2 == 6 && f.2.2.2.1.getD (f.2.2.2.1.length - 1) 0 == 0)
def raiseB (x : Image) (fs : List Frame) (x3 : Int) : Bool := x3 == 0 && rzB x (fs.getD (fs.length - 1) noFr)
/-- A place of a code of a good image that is reached takes no more than there is. -/
theorem takes_le {x : Image} {c : Code} {a : Nat} (h : codeF x c = 0) (hh : 0 ≤ hv (checkH x c) (a : Int)) : takesF x (insAt c.2.2.2.1 (a : Int)) ≤ hv (checkH x c) (a : Int) := by
  obtain ⟨_, _, _, l, hl1, hl2⟩ := codeF_0 h
  have hs := heightsF_sol hl1
  rw [hl2] at hh ⊢
  exact (hs.cons.done (a : Int) hh).1
set_option maxHeartbeats 16000000 in
theorem implIsRaising0 (w : World) (lo hi : Nat) (A : Option Addr) (n c : Nat) (x : List Code) (A0 : Option Addr) (n0 c0 : Nat) (fs : List Frame) (A1 : Option Addr) (n1 c1 : Nat) (tr : List Int) (x2 x3 x4 x5 : Int) (A6 : Option Addr) (n6 c6 : Nat)
    (h : Sl CodeR w lo hi A n c x) (h0 : Sl FrameR w lo hi A0 n0 c0 fs) (h1 : Sl intR w lo hi A1 n1 c1 tr) (hh : hi ≤ w.heap.size)  (hg : goodI x = true) (hT : x3 = 0 → ∃ (u : Nat) (hu : u < fs.length), u + 1 = fs.length ∧ frB x fs[u] = true ∧ ((fs[u]).2.2.2.1.length : Int) = hv (checkH x (codeD x (fs[u]).2.1)) (fs[u]).2.2.1) :
    Calls Tryz.prog 41 #[.agg #[.slice A n c], .agg #[.slice A0 n0 c0, .slice A1 n1 c1, .int .i64 x2, .int .i64 x3, .int .i64 x4, .int .i64 x5, .slice A6 n6 c6]] w (RetB (raiseB x fs x3) w) := by
  have HL0 := Lib.hid h0.lenEq
  have HL := Lib.hid h.lenEq
  have hn0b := h0.lenLe
  by_cases e3 : x3 = 0
  rotate_left
  · have e1 : (x3 != 0) = true := by simpa using e3
    have hn := Lib.hid (show raiseB x fs x3 = false by unfold raiseB; rw [show (x3 == 0) = false by simpa using e3]; rfl)
    replace e3 := Lib.hid e3
    clear hT
    go_enter Tryz.func41, Tryz.ntmps41
    go_wp2_with fail
    go_ret
    exact RetB.mk hn.out.symm (by exact belA)
  subst e3
  have hpos : 0 < n0 := by
    obtain ⟨u, hu, _⟩ := hT rfl
    have := HL0.out; omega
  obtain ⟨u, rfl⟩ : ∃ u, n0 = u + 1 := ⟨n0 - 1, by omega⟩
  obtain ⟨b, o, y0, y1, y2, A3, n3, c3, s3, A4, n4, c4, s4, A5, n5, c5, s5, y6, y7, y8, y9, y10, rfl, _, hbF, hl0, _, _, _, hS3, hS4, hS5, _, _, _, _, e0, e1, e2, e3, e4, e5, e6, e7, e8, e9, e10⟩ := Frame_at h0 (show u < u + 1 by omega)
  have hT0 := hT rfl
  clear hT
  obtain ⟨hfr, hpl⟩ : frB x (y0, y1, y2, s3, s4, s5, y6, y7, y8, y9, y10) = true ∧ (s3.length : Int) = hv (checkH x (codeD x y1)) y2 := by
    obtain ⟨u', hu', hq, hr⟩ := hT0
    have e : u' = u := by have := HL0.out; omega
    subst e
    rw [hl0] at hr
    exact hr
  have hp := frB_parts hfr
  simp only at hp hpl
  obtain ⟨⟨p1, p2⟩, ⟨p3, p4⟩, p5, p6⟩ := hp
  obtain ⟨j, rfl⟩ := Int.eq_ofNat_of_zero_le p1
  obtain ⟨a, rfl⟩ := Int.eq_ofNat_of_zero_le p3
  have hjx : j < x.length := by omega
  have hj : j < n := by have := HL.out; omega
  have hcd := codeD_at hjx
  obtain ⟨bc, oc, z0, z1, D2, m2, d2, t2, D3, m3, d3, t3, D4, m4, d4, t4, rfl, _, hbb, hlc, _, _, kS2, kS3, kS4, v0, v1, v2, v3, v4⟩ := Code_at h hj
  have hc0 := (goodI_iff.1 hg).2.2 _ (List.getElem_mem hjx)
  rw [hlc] at hc0 hcd
  rw [hcd] at p4 hpl
  simp only at p4
  have L3 := kS3.lenEq
  have ha3 : a < m3 := by omega
  obtain ⟨bi, oi, op, nn, rfl, _, hbi, hli, _, _, r0, r1⟩ := Ins_at kS3 ha3
  have hia : insAt t3 (a : Int) = (op, nn) := by rw [insAt_eq (by omega), hli]
  have hk3 := hS3.lenEq
  have h4 := Lib.hid (fun (e : op = 4) => show 2 ≤ n3 by
    have hq := takes_le (a := a) hc0 (by rw [← hpl]; omega)
    simp only at hq
    rw [hia, ← hpl, hk3] at hq
    have : takesF x (op, nn) = 2 := by unfold takesF; simp [e]
    omega)
  have HR := Lib.hid (show raiseB x fs 0 = (op == 13 || (op == 4 && nn == 6 && s3.getD (n3 - 1) 0 == 0)) by
    unfold raiseB rzB
    rw [show fs.getD (fs.length - 1) noFr = (y0, (j : Int), (a : Int), s3, s4, s5, y6, y7, y8, y9, y10) by rw [HL0.out]; simp [List.getD, show u < fs.length by have := HL0.out; omega, hl0]]
    simp only
    rw [hcd]
    simp only
    rw [hia, hk3]; rfl)
  have HK3 := Lib.hid hk3
  obtain ⟨a13, E13⟩ : ∃ r, (op == 13) = r := ⟨_, rfl⟩
  obtain ⟨a4, E4⟩ : ∃ r, (op == 4) = r := ⟨_, rfl⟩
  obtain ⟨a6, E6⟩ : ∃ r, (nn == 6) = r := ⟨_, rfl⟩
  obtain ⟨res, RES⟩ : ∃ r, raiseB x fs 0 = r := ⟨_, rfl⟩
  have HR2 := Lib.hid (RES.symm.trans HR.out)
  rw [RES]
  have E4h := Lib.hid E4
  have E13h := Lib.hid E13
  have E6h := Lib.hid E6
  have hwu : IntKind.i64.wrap (((u + 1 : Nat) : Int) - 1) = (u : Int) := by rw [IntWalk.i64_in _ (by omega)]; omega
  have hjI : (j : Int) < (n : Int) := by omega
  have haI : (a : Int) < (m3 : Int) := by omega
  have hbbw : bc < w.heap.size := by omega
  have hbFw : b < w.heap.size := by omega
  have hbiw : bi < w.heap.size := by omega
  have hn3b := hS3.lenLe
  clear hT0 hl0 hpl hfr p4 p5 p6 hc0 hcd hlc hia hk3 hli L3 RES v0 v1 v2 v4
  go_enter Tryz.func41, Tryz.ntmps41
  go_upto_region 4 with fail
  obtain ⟨V, hV⟩ : ∃ V, V = ((w.alloc (.cells #[.slice (some ⟨bc, oc, none⟩) n c] 35)).alloc (.cells #[.slice (some ⟨b, o, none⟩) (u + 1) c0, .slice A1 n1 c1, .int .i64 x2, .int .i64 0, .int .i64 x4, .int .i64 x5, .slice A6 n6 c6] 30)).alloc (.cells #[.int .i64 y0, .int .i64 j, .int .i64 a, .slice A3 n3 c3, .slice A4 n4 c4, .slice A5 n5 c5, .int .i64 y6, .int .i64 y7, .int .i64 y8, .int .i64 y9, .bool y10] 74) := ⟨_, rfl⟩
  have hbV : Below w.heap.size w V := by rw [hV]; exact belA
  have hzV : w.heap.size + 3 ≤ V.heap.size := by rw [hV]; simp
  have v3 := below_cell hbV v3
  have r0 := below_cell hbV r0
  have r1 := below_cell hbV r1
  have hX := Lib.hid (show ∀ V', Below V.heap.size V V' → V'.cell? ⟨w.heap.size, 0, none⟩ = some (.slice (some ⟨bc, oc, none⟩) n c) ∧ V'.cell? ⟨w.heap.size + 1 + 1, 1, none⟩ = some (.int .i64 j) ∧ V'.cell? ⟨w.heap.size + 1 + 1, 2, none⟩ = some (.int .i64 a) ∧ V'.cell? ⟨w.heap.size + 1 + 1, 3, none⟩ = some (.slice A3 n3 c3) ∧ V'.cell? ⟨bc, oc + j * 5 + 3, none⟩ = some (.slice (some ⟨bi, oi, none⟩) m3 d3) ∧ V'.cell? ⟨bi, oi + a * 2, none⟩ = some (.int .i64 op) ∧ V'.cell? ⟨bi, oi + a * 2 + 1, none⟩ = some (.int .i64 nn) from (fun V' hV' => by
    refine ⟨below_cell hV' ?_, below_cell hV' ?_, below_cell hV' ?_, below_cell hV' ?_, below_cell hV' ?_, below_cell hV' ?_, below_cell hV' ?_⟩ <;> first | assumption | (rw [hV]; simp [go_sem])))
  rw [← hV]
  clear hV v3 r0 r1 e0 e1 e2 e3 e4 e5 e6 e7 e8 e9 e10
  go_cut [6] (fun s6 wx => ∃ g1 : Nat, s6 = .pointer (some ⟨g1, 0, none⟩) ∧ wx.cell? ⟨g1, 0, none⟩ = some (.int .i64 op) ∧ wx.cell? ⟨g1, 1, none⟩ = some (.int .i64 nn) ∧ Below V.heap.size V wx)
  case first =>
    as_aux_lemma =>
      obtain ⟨sc0, sc1, sc2, sc3, sc4, sc5, sc6⟩ := hX.out V (Below.refl _ _)
      go_region_held3 (fun V' => V'.cell? ⟨w.heap.size, 0, none⟩ = some (.slice (some ⟨bc, oc, none⟩) n c) ∧ V'.cell? ⟨w.heap.size + 1 + 1, 1, none⟩ = some (.int .i64 j) ∧ V'.cell? ⟨w.heap.size + 1 + 1, 2, none⟩ = some (.int .i64 a) ∧ V'.cell? ⟨w.heap.size + 1 + 1, 3, none⟩ = some (.slice A3 n3 c3) ∧ V'.cell? ⟨bc, oc + j * 5 + 3, none⟩ = some (.slice (some ⟨bi, oi, none⟩) m3 d3) ∧ V'.cell? ⟨bi, oi + a * 2, none⟩ = some (.int .i64 op) ∧ V'.cell? ⟨bi, oi + a * 2 + 1, none⟩ = some (.int .i64 nn)) (first | exact ⟨sc0, sc1, sc2, sc3, sc4, sc5, sc6⟩ | exact hX.out _ (show Below V.heap.size V _ by exact beloA)) (fail)
      all_goals
        go_wp2_with fail
        go_meet
        case rel => exact ⟨_, rfl, by simp [go_sem], by simp [go_sem], by exact beloA⟩
  case rest =>
    as_aux_lemma =>
      obtain ⟨g1, rfl, k0, k1, hbe⟩ := hcut
      obtain ⟨sc0, sc1, sc2, sc3, sc4, sc5, sc6⟩ := hX.out wc hbe
      have hbw : Below w.heap.size w wc := hbV.trans (hbe.mono (by omega))
      cases a13
      · cases a4
        · have hn := Lib.hid (show res = false by rw [HR2.out, E13h.out, E4h.out]; rfl)
          go_wp2_with fail
          go_ret
          exact RetB.mk hn.out.symm hbw
        · cases a6
          · have hn := Lib.hid (show res = false by rw [HR2.out, E13h.out, E4h.out, E6h.out]; rfl)
            go_wp2_with fail
            go_ret
            exact RetB.mk hn.out.symm hbw
          · have h2n := h4.out (by have := E4h.out; simpa using this)
            obtain ⟨b3, o3, rfl, _, _, hcp, _⟩ := (hS3.below hbw hh).int_at (k := n3 - 1) (by omega)
            obtain ⟨pv, PV⟩ : ∃ pv, s3[n3 - 1]'(by have := HK3.out; omega) = pv := ⟨_, rfl⟩
            rw [PV] at hcp
            obtain ⟨pz, PZ⟩ : ∃ r, (pv == 0) = r := ⟨_, rfl⟩
            have hn := Lib.hid (show res = pz by
              rw [HR2.out, E13h.out, E4h.out, E6h.out, ← PZ, ← PV]
              simp [List.getD, show n3 - 1 < s3.length by have := HK3.out; omega])
            have hwn : IntKind.i64.wrap ((n3 : Int) - 1) = ((n3 - 1 : Nat) : Int) := by rw [IntWalk.i64_in _ (by omega)]; omega
            have hnI : ((n3 - 1 : Nat) : Int) < (n3 : Int) := by omega
            have hnN : n3 - 1 < n3 := by omega
            clear PV
            cases pz
            all_goals
              go_wp2_with fail
              go_ret
              exact RetB.mk hn.out.symm hbw
      · have hn := Lib.hid (show res = true by rw [HR2.out, E13h.out]; rfl)
        go_wp2_with fail
        go_ret
        exact RetB.mk hn.out.symm hbw
set_option maxHeartbeats 16000000 in
theorem specL9Raising0 (w : World) (lo hi : Nat) (A : Option Addr) (n c : Nat) (x : List Code) (A0 : Option Addr) (n0 c0 : Nat) (fs : List Frame) (A1 : Option Addr) (n1 c1 : Nat) (tr : List Int) (x2 x3 x4 x5 : Int) (A6 : Option Addr) (n6 c6 : Nat)
    (h : Sl CodeR w lo hi A n c x) (h0 : Sl FrameR w lo hi A0 n0 c0 fs) (h1 : Sl intR w lo hi A1 n1 c1 tr) (hh : hi ≤ w.heap.size)  (hg : goodI x = true) (hT : x3 = 0 → ∃ (u : Nat) (hu : u < fs.length), u + 1 = fs.length ∧ frB x fs[u] = true ∧ ((fs[u]).2.2.2.1.length : Int) = hv (checkH x (codeD x (fs[u]).2.1)) (fs[u]).2.2.1) :
    Calls Tryz.prog 39 #[.agg #[.slice A n c], .agg #[.slice A0 n0 c0, .slice A1 n1 c1, .int .i64 x2, .int .i64 x3, .int .i64 x4, .int .i64 x5, .slice A6 n6 c6]] w (RetB (raiseB x fs x3) w) := by
  have HL0 := Lib.hid h0.lenEq
  have HL := Lib.hid h.lenEq
  have hn0b := h0.lenLe
  by_cases e3 : x3 = 0
  rotate_left
  · have e1 : (x3 != 0) = true := by simpa using e3
    have hn := Lib.hid (show raiseB x fs x3 = false by unfold raiseB; rw [show (x3 == 0) = false by simpa using e3]; rfl)
    replace e3 := Lib.hid e3
    clear hT
    go_enter Tryz.func39, Tryz.ntmps39
    go_wp2_with fail
    go_ret
    exact RetB.mk hn.out.symm (by exact belA)
  subst e3
  have hpos : 0 < n0 := by
    obtain ⟨u, hu, _⟩ := hT rfl
    have := HL0.out; omega
  obtain ⟨u, rfl⟩ : ∃ u, n0 = u + 1 := ⟨n0 - 1, by omega⟩
  obtain ⟨b, o, y0, y1, y2, A3, n3, c3, s3, A4, n4, c4, s4, A5, n5, c5, s5, y6, y7, y8, y9, y10, rfl, _, hbF, hl0, _, _, _, hS3, hS4, hS5, _, _, _, _, e0, e1, e2, e3, e4, e5, e6, e7, e8, e9, e10⟩ := Frame_at h0 (show u < u + 1 by omega)
  have hT0 := hT rfl
  clear hT
  obtain ⟨hfr, hpl⟩ : frB x (y0, y1, y2, s3, s4, s5, y6, y7, y8, y9, y10) = true ∧ (s3.length : Int) = hv (checkH x (codeD x y1)) y2 := by
    obtain ⟨u', hu', hq, hr⟩ := hT0
    have e : u' = u := by have := HL0.out; omega
    subst e
    rw [hl0] at hr
    exact hr
  have hp := frB_parts hfr
  simp only at hp hpl
  obtain ⟨⟨p1, p2⟩, ⟨p3, p4⟩, p5, p6⟩ := hp
  obtain ⟨j, rfl⟩ := Int.eq_ofNat_of_zero_le p1
  obtain ⟨a, rfl⟩ := Int.eq_ofNat_of_zero_le p3
  have hjx : j < x.length := by omega
  have hj : j < n := by have := HL.out; omega
  have hcd := codeD_at hjx
  obtain ⟨bc, oc, z0, z1, D2, m2, d2, t2, D3, m3, d3, t3, D4, m4, d4, t4, rfl, _, hbb, hlc, _, _, kS2, kS3, kS4, v0, v1, v2, v3, v4⟩ := Code_at h hj
  have hc0 := (goodI_iff.1 hg).2.2 _ (List.getElem_mem hjx)
  rw [hlc] at hc0 hcd
  rw [hcd] at p4 hpl
  simp only at p4
  have L3 := kS3.lenEq
  have ha3 : a < m3 := by omega
  obtain ⟨bi, oi, op, nn, rfl, _, hbi, hli, _, _, r0, r1⟩ := Ins_at kS3 ha3
  have hia : insAt t3 (a : Int) = (op, nn) := by rw [insAt_eq (by omega), hli]
  have hk3 := hS3.lenEq
  have h4 := Lib.hid (fun (e : op = 4) => show 2 ≤ n3 by
    have hq := takes_le (a := a) hc0 (by rw [← hpl]; omega)
    simp only at hq
    rw [hia, ← hpl, hk3] at hq
    have : takesF x (op, nn) = 2 := by unfold takesF; simp [e]
    omega)
  have HR := Lib.hid (show raiseB x fs 0 = (op == 13 || (op == 4 && nn == 6 && s3.getD (n3 - 1) 0 == 0)) by
    unfold raiseB rzB
    rw [show fs.getD (fs.length - 1) noFr = (y0, (j : Int), (a : Int), s3, s4, s5, y6, y7, y8, y9, y10) by rw [HL0.out]; simp [List.getD, show u < fs.length by have := HL0.out; omega, hl0]]
    simp only
    rw [hcd]
    simp only
    rw [hia, hk3]; rfl)
  have HK3 := Lib.hid hk3
  obtain ⟨a13, E13⟩ : ∃ r, (op == 13) = r := ⟨_, rfl⟩
  obtain ⟨a4, E4⟩ : ∃ r, (op == 4) = r := ⟨_, rfl⟩
  obtain ⟨a6, E6⟩ : ∃ r, (nn == 6) = r := ⟨_, rfl⟩
  obtain ⟨res, RES⟩ : ∃ r, raiseB x fs 0 = r := ⟨_, rfl⟩
  have HR2 := Lib.hid (RES.symm.trans HR.out)
  rw [RES]
  have E4h := Lib.hid E4
  have E13h := Lib.hid E13
  have E6h := Lib.hid E6
  have hwu : IntKind.i64.wrap (((u + 1 : Nat) : Int) - 1) = (u : Int) := by rw [IntWalk.i64_in _ (by omega)]; omega
  have hjI : (j : Int) < (n : Int) := by omega
  have haI : (a : Int) < (m3 : Int) := by omega
  have hbbw : bc < w.heap.size := by omega
  have hbFw : b < w.heap.size := by omega
  have hbiw : bi < w.heap.size := by omega
  have hn3b := hS3.lenLe
  clear hT0 hl0 hpl hfr p4 p5 p6 hc0 hcd hlc hia hk3 hli L3 RES v0 v1 v2 v4
  go_enter Tryz.func39, Tryz.ntmps39
  go_upto_region 4 with fail
  obtain ⟨V, hV⟩ : ∃ V, V = ((w.alloc (.cells #[.slice (some ⟨bc, oc, none⟩) n c] 35)).alloc (.cells #[.slice (some ⟨b, o, none⟩) (u + 1) c0, .slice A1 n1 c1, .int .i64 x2, .int .i64 0, .int .i64 x4, .int .i64 x5, .slice A6 n6 c6] 30)).alloc (.cells #[.int .i64 y0, .int .i64 j, .int .i64 a, .slice A3 n3 c3, .slice A4 n4 c4, .slice A5 n5 c5, .int .i64 y6, .int .i64 y7, .int .i64 y8, .int .i64 y9, .bool y10] 74) := ⟨_, rfl⟩
  have hbV : Below w.heap.size w V := by rw [hV]; exact belA
  have hzV : w.heap.size + 3 ≤ V.heap.size := by rw [hV]; simp
  have v3 := below_cell hbV v3
  have r0 := below_cell hbV r0
  have r1 := below_cell hbV r1
  have hX := Lib.hid (show ∀ V', Below V.heap.size V V' → V'.cell? ⟨w.heap.size, 0, none⟩ = some (.slice (some ⟨bc, oc, none⟩) n c) ∧ V'.cell? ⟨w.heap.size + 1 + 1, 1, none⟩ = some (.int .i64 j) ∧ V'.cell? ⟨w.heap.size + 1 + 1, 2, none⟩ = some (.int .i64 a) ∧ V'.cell? ⟨w.heap.size + 1 + 1, 3, none⟩ = some (.slice A3 n3 c3) ∧ V'.cell? ⟨bc, oc + j * 5 + 3, none⟩ = some (.slice (some ⟨bi, oi, none⟩) m3 d3) ∧ V'.cell? ⟨bi, oi + a * 2, none⟩ = some (.int .i64 op) ∧ V'.cell? ⟨bi, oi + a * 2 + 1, none⟩ = some (.int .i64 nn) from (fun V' hV' => by
    refine ⟨below_cell hV' ?_, below_cell hV' ?_, below_cell hV' ?_, below_cell hV' ?_, below_cell hV' ?_, below_cell hV' ?_, below_cell hV' ?_⟩ <;> first | assumption | (rw [hV]; simp [go_sem])))
  rw [← hV]
  clear hV v3 r0 r1 e0 e1 e2 e3 e4 e5 e6 e7 e8 e9 e10
  go_cut [6] (fun s6 wx => ∃ g1 : Nat, s6 = .pointer (some ⟨g1, 0, none⟩) ∧ wx.cell? ⟨g1, 0, none⟩ = some (.int .i64 op) ∧ wx.cell? ⟨g1, 1, none⟩ = some (.int .i64 nn) ∧ Below V.heap.size V wx)
  case first =>
    as_aux_lemma =>
      obtain ⟨sc0, sc1, sc2, sc3, sc4, sc5, sc6⟩ := hX.out V (Below.refl _ _)
      go_region_held3 (fun V' => V'.cell? ⟨w.heap.size, 0, none⟩ = some (.slice (some ⟨bc, oc, none⟩) n c) ∧ V'.cell? ⟨w.heap.size + 1 + 1, 1, none⟩ = some (.int .i64 j) ∧ V'.cell? ⟨w.heap.size + 1 + 1, 2, none⟩ = some (.int .i64 a) ∧ V'.cell? ⟨w.heap.size + 1 + 1, 3, none⟩ = some (.slice A3 n3 c3) ∧ V'.cell? ⟨bc, oc + j * 5 + 3, none⟩ = some (.slice (some ⟨bi, oi, none⟩) m3 d3) ∧ V'.cell? ⟨bi, oi + a * 2, none⟩ = some (.int .i64 op) ∧ V'.cell? ⟨bi, oi + a * 2 + 1, none⟩ = some (.int .i64 nn)) (first | exact ⟨sc0, sc1, sc2, sc3, sc4, sc5, sc6⟩ | exact hX.out _ (show Below V.heap.size V _ by exact beloA)) (fail)
      all_goals
        go_wp2_with fail
        go_meet
        case rel => exact ⟨_, rfl, by simp [go_sem], by simp [go_sem], by exact beloA⟩
  case rest =>
    as_aux_lemma =>
      obtain ⟨g1, rfl, k0, k1, hbe⟩ := hcut
      obtain ⟨sc0, sc1, sc2, sc3, sc4, sc5, sc6⟩ := hX.out wc hbe
      have hbw : Below w.heap.size w wc := hbV.trans (hbe.mono (by omega))
      cases a13
      · cases a4
        · have hn := Lib.hid (show res = false by rw [HR2.out, E13h.out, E4h.out]; rfl)
          go_wp2_with fail
          go_ret
          exact RetB.mk hn.out.symm hbw
        · cases a6
          · have hn := Lib.hid (show res = false by rw [HR2.out, E13h.out, E4h.out, E6h.out]; rfl)
            go_wp2_with fail
            go_ret
            exact RetB.mk hn.out.symm hbw
          · have h2n := h4.out (by have := E4h.out; simpa using this)
            obtain ⟨b3, o3, rfl, _, _, hcp, _⟩ := (hS3.below hbw hh).int_at (k := n3 - 1) (by omega)
            obtain ⟨pv, PV⟩ : ∃ pv, s3[n3 - 1]'(by have := HK3.out; omega) = pv := ⟨_, rfl⟩
            rw [PV] at hcp
            obtain ⟨pz, PZ⟩ : ∃ r, (pv == 0) = r := ⟨_, rfl⟩
            have hn := Lib.hid (show res = pz by
              rw [HR2.out, E13h.out, E4h.out, E6h.out, ← PZ, ← PV]
              simp [List.getD, show n3 - 1 < s3.length by have := HK3.out; omega])
            have hwn : IntKind.i64.wrap ((n3 : Int) - 1) = ((n3 - 1 : Nat) : Int) := by rw [IntWalk.i64_in _ (by omega)]; omega
            have hnI : ((n3 - 1 : Nat) : Int) < (n3 : Int) := by omega
            have hnN : n3 - 1 < n3 := by omega
            clear PV
            cases pz
            all_goals
              go_wp2_with fail
              go_ret
              exact RetB.mk hn.out.symm hbw
      · have hn := Lib.hid (show res = true by rw [HR2.out, E13h.out]; rfl)
        go_wp2_with fail
        go_ret
        exact RetB.mk hn.out.symm hbw
end Go.Proofs.YtgdeclmciflmpaaGreat
