/- Whether a machine is good: the reference's whole walk. -/
import Derived.Test.YtmnkgcjbckamnaaGreatGoodS
set_option linter.unusedVariables false
set_option linter.unusedSimpArgs false
set_option maxRecDepth 100000
namespace Go.Proofs.YtmnkgcjbckamnaaGreat
open Go.RowKit
attribute [local irreducible] wpList
def off0 (fs : List Frame) : Bool := (fs[0]?.map frOff).getD false
theorem off0_at {fs : List Frame} {f : Frame} (h : 0 < fs.length) (hf : fs[0] = f) : off0 fs = frOff f := by unfold off0; rw [List.getElem?_eq_getElem h, hf]; rfl
theorem vfB_off {x : Image} {fs : List Frame} (h : 0 < fs.length) (ho : off0 fs = true) : vfB x fs 0 = false := by
  rw [vfB_at h rfl]
  have : frOff fs[0] = true := by rw [← off0_at h rfl]; exact ho
  rw [this]; simp
set_option maxHeartbeats 16000000 in
theorem specL8Good (w : World) (lo hi : Nat) (A : Option Addr) (n c : Nat) (x : List Code) (A0 : Option Addr) (n0 c0 : Nat) (fs : List Frame) (A1 : Option Addr) (n1 c1 : Nat) (tr : List Int) (x2 x3 x4 x5 : Int) (v6 : Value)
    (h : Sl CodeR w lo hi A n c x) (h0 : Sl FrameR w lo hi A0 n0 c0 fs) (h1 : Sl intR w lo hi A1 n1 c1 tr) (hh : hi ≤ w.heap.size) (hg : goodI x = true) :
    Calls Tryz.prog 103 #[.agg #[.slice A n c], .agg #[.slice A0 n0 c0, .slice A1 n1 c1, .int .i64 x2, .int .i64 x3, .int .i64 x4, .int .i64 x5, v6]] w (RetB (vmB x fs tr x2 x3 x4 x5) w) := by
  have HL0 := Lib.hid h0.lenEq
  have HG := Lib.hid hg
  have hn0b := h0.lenLe
  clear hg
  have hv : ∀ b : Bool, ∃ c, b = c := fun b => ⟨b, rfl⟩
  obtain ⟨b1, B1⟩ := hv (tr.all small)
  obtain ⟨d4, D4⟩ := hv (small x4)
  obtain ⟨d2, D2⟩ := hv (inB x2 0 10)
  obtain ⟨d3, D3⟩ := hv (inB x3 0 4)
  obtain ⟨d5, D5⟩ := hv (inB x5 0 1000000)
  obtain ⟨p, P⟩ := hv (preB tr x2 x3 x4 x5)
  have P2 : preB tr x2 x3 x4 x5 = (b1 && d4 && d2 && d3 && d5) := by unfold preB; rw [B1, D4, D2, D3, D5]
  rw [P] at P2
  replace P := Lib.hid P
  replace P2 := Lib.hid P2
  replace B1 := Lib.hid B1
  replace D4 := Lib.hid D4
  replace D2 := Lib.hid D2
  replace D3 := Lib.hid D3
  replace D5 := Lib.hid D5
  obtain ⟨z, Z⟩ := hv (cntB x3 n0)
  replace Z := Lib.hid Z
  obtain ⟨oz, OZ⟩ := hv (off0 fs)
  replace OZ := Lib.hid OZ
  obtain ⟨t, TT⟩ := hv (z && !oz)
  replace TT := Lib.hid TT
  clear hv
  go_enter Tryz.func103, Tryz.ntmps103
  go_upto_region 2 with fail
  obtain ⟨W, hW⟩ : ∃ W, W = (w.alloc (.cells #[.slice A n c] 35)).alloc (.cells #[.slice A0 n0 c0, .slice A1 n1 c1, .int .i64 x2, .int .i64 x3, .int .i64 x4, .int .i64 x5, v6] 55) := ⟨_, rfl⟩
  have hbW : Below w.heap.size w W := by rw [hW]; (repeat (first | with_reducible exact Below.refl _ _ | with_reducible assumption | with_reducible refine below_alloc ?_ _ | ((with_reducible refine Below.setCell ?_ ?_ _); rotate_left; (· first | exact Nat.le_refl _ | (simp; done) | (simp; omega))) | with_reducible refine below_drewN ?_ _ | with_reducible refine Below.drew ?_ | with_reducible refine below_then ?_ (by with_reducible assumption)))
  have hzW : w.heap.size + 2 ≤ W.heap.size := by rw [hW]; simp
  have hS := Lib.hid (show ∀ V, Below W.heap.size W V → V.cell? ⟨w.heap.size, 0, none⟩ = some (.slice A n c) ∧ V.cell? ⟨w.heap.size + 1, 0, none⟩ = some (.slice A0 n0 c0) ∧ V.cell? ⟨w.heap.size + 1, 1, none⟩ = some (.slice A1 n1 c1) ∧ V.cell? ⟨w.heap.size + 1, 2, none⟩ = some (.int .i64 x2) ∧ V.cell? ⟨w.heap.size + 1, 3, none⟩ = some (.int .i64 x3) ∧ V.cell? ⟨w.heap.size + 1, 4, none⟩ = some (.int .i64 x4) ∧ V.cell? ⟨w.heap.size + 1, 5, none⟩ = some (.int .i64 x5) from (fun V hV => by refine ⟨below_cell hV ?_, below_cell hV ?_, below_cell hV ?_, below_cell hV ?_, below_cell hV ?_, below_cell hV ?_, below_cell hV ?_⟩ <;> (rw [hW]; simp [go_sem])))
  rw [← hW]
  clear hW
  go_cut [38] (fun s wx => s = .bool (!p) ∧ Below W.heap.size W wx)
  case first =>
    as_aux_lemma =>
      obtain ⟨q0, q1, q2, q3, q4, q5, q6⟩ := hS.out W (Below.refl _ _)
      go_wp2_with (first
        | (go_at_call 163; ((with_reducible refine (specL2Bound2 _ x4).mono ?_); rintro e w3 ⟨rfl, rfl⟩; rw [D4.out]; cases d4))
        | (go_at_call 115; ((with_reducible refine (specL8Bounds _ lo hi n1 c1 A1 tr (h1.below hbW hh) (by omega)).mono ?_); rintro e w4 ⟨rfl, hb4⟩; rw [B1.out]; cases b1))
        | (go_at_call 42; ((with_reducible refine (specL1In _ x2 _ _).mono ?_); rintro e w3 ⟨rfl, rfl⟩; rw [D2.out]; cases d2))
        | (go_at_call 42; ((with_reducible refine (specL1In _ x3 _ _).mono ?_); rintro e w3 ⟨rfl, rfl⟩; rw [D3.out]; cases d3))
        | (go_at_call 42; ((with_reducible refine (specL1In _ x5 _ _).mono ?_); rintro e w3 ⟨rfl, rfl⟩; rw [D5.out]; cases d5)))
      all_goals
        go_meet
        case rel => exact ⟨by rw [P2.out]; simp, by (repeat (first | with_reducible exact Below.refl _ _ | with_reducible assumption | with_reducible refine below_alloc ?_ _ | ((with_reducible refine Below.setCell ?_ ?_ _); rotate_left; (· first | exact Nat.le_refl _ | (simp; done) | (simp; omega))) | with_reducible refine below_drewN ?_ _ | with_reducible refine Below.drew ?_ | with_reducible refine below_then ?_ (by with_reducible assumption)))⟩
  case rest =>
    as_aux_lemma =>
      obtain ⟨rfl, hbc⟩ := hcut
      cases p
      · have hn := Lib.hid (show vmB x fs tr x2 x3 x4 x5 = false by unfold vmB; rw [P.out]; rfl)
        go_wp2_with fail
        go_ret
        exact RetB.mk hn.out.symm (below_then hbW (hbc.mono (by omega)))
      obtain ⟨q0, q1, q2, q3, q4, q5, q6⟩ := hS.out wc hbc
      go_upto_region 4 with fail
      go_cut [70] (fun s wx => s = .bool (!t) ∧ wx = wc)
      case first =>
        as_aux_lemma =>
          obtain ⟨r0, R0⟩ : ∃ r, (x3 == 0) = r := ⟨_, rfl⟩
          obtain ⟨r4, R4⟩ : ∃ r, (x3 == 4) = r := ⟨_, rfl⟩
          have R0' : (x3 != 0) = !r0 := by rw [← R0]; rfl
          have R4' : (x3 != 4) = !r4 := by rw [← R4]; rfl
          by_cases hp0 : 0 < n0
          · have hbwc : Below w.heap.size w wc := hbW.trans (hbc.mono (by omega))
            obtain ⟨b, o, y0, y1, y2, A3, n3, c3, s3, A4, n4, c4, s4, A5, n5, c5, s5, y6, y7, y8, y9, y10, rfl, _, hbF, hl0, _, _, _, _, _, _, _, _, _, _, _, _, _, _, _, _, _, _, _, _, e10⟩ := Frame_at (h0.below hbwc hh) hp0
            have e10 : wc.cell? ⟨b, o + 10, none⟩ = some (.bool y10) := by simpa using e10
            have hoz : oz = y10 := by rw [← OZ.out, off0_at (by have := HL0.out; omega) hl0]; rfl
            subst hoz
            have RN : ((n0 : Int) == 0) = false := by simp; omega
            have RN' : decide ((n0 : Int) > 0) = true := by simp; omega
            have RN0 : decide (0 < n0) = true := by simp; omega
            have hI0 : (0 : Int) < (n0 : Int) := by omega
            have Z2 := Lib.hid (show z = !((r0 && false) || (!r0 && !r4 && true)) by rw [← Z.out, ← R0', ← R4', ← R0]; unfold cntB; rw [RN, RN'])
            clear hl0
            cases r0 <;> cases r4 <;> cases oz
            all_goals
              simp only [Bool.not_true, Bool.not_false] at R0' R4'
              go_wp2_with fail
              go_meet
              case rel => exact ⟨by first | (rw [← TT.out, Z2.out]; rfl) | (simp only [RN0]; rw [← TT.out, Z2.out]; rfl), rfl⟩
          · have hz0 : n0 = 0 := by omega
            subst hz0
            have hoz : oz = false := by rw [← OZ.out]; unfold off0; rw [List.getElem?_eq_none (by have := HL0.out; omega)]; rfl
            subst hoz
            have Z2 := Lib.hid (show z = !((r0 && true) || (!r0 && !r4 && false)) by rw [← Z.out, ← R0', ← R4', ← R0]; rfl)
            cases r0 <;> cases r4
            all_goals
              simp only [Bool.not_true, Bool.not_false] at R0' R4'
              go_wp2_with fail
              go_meet
              case rel => exact ⟨by rw [← TT.out, Z2.out]; rfl, rfl⟩
      case rest =>
        as_aux_lemma =>
          obtain ⟨rfl, hw⟩ := hcut
          subst hw
          obtain ⟨wo, hwo⟩ : ∃ wo, wo = wc := ⟨_, rfl⟩
          subst hwo
          cases t
          · have hn := Lib.hid (show vmB x fs tr x2 x3 x4 x5 = false by
              have ht := TT.out
              unfold vmB
              rw [P.out, HL0.out, Z.out]
              cases z
              · rfl
              · cases oz
                · simp at ht
                · have hpos : 0 < fs.length := by
                    rcases Nat.eq_zero_or_pos fs.length with e | e
                    · have := OZ.out; unfold off0 at this; rw [List.getElem?_eq_none (by omega)] at this; simp at this
                    · exact e
                  rw [all_false (p := vfB x fs) (k := 0) (l := List.range n0) (by rw [List.length_range, ← HL0.out]; exact hpos) (by rw [List.getElem_range]; exact vfB_off hpos OZ.out)]
                  rfl)
            go_wp2_with fail
            go_ret
            exact RetB.mk hn.out.symm (below_then hbW (hbc.mono (by omega)))
          have hzt : z = true ∧ oz = false := by
            have := TT.out
            cases z <;> cases oz <;> simp_all
          obtain ⟨hz1, hz2⟩ := hzt
          subst hz1 hz2
          have hvm := Lib.hid (show vmB x fs tr x2 x3 x4 x5 = (List.range fs.length).all (vfB x fs) by unfold vmB; rw [HL0.out, Z.out, P.out]; rfl)
          have hle2 := Lib.hid (show ∀ k, k < n0 → k < fs.length from fun k hk => by have := HL0.out; omega)
          go_wp2_with fail
          go_loopw [74] (fun i wr => ∃ k : Nat, k ≤ n0 ∧ i = .int .i64 k ∧ (List.range k).all (vfB x fs) = true ∧ Below wo.heap.size wo wr) (fun i _ => n0 - (intOf i).toNat)
          case atStart => exact ⟨0, Nat.zero_le _, rfl, rfl, by (repeat (first | with_reducible exact Below.refl _ _ | with_reducible assumption | with_reducible refine below_alloc ?_ _ | ((with_reducible refine Below.setCell ?_ ?_ _); rotate_left; (· first | exact Nat.le_refl _ | (simp; done) | (simp; omega))) | with_reducible refine below_drewN ?_ _ | with_reducible refine Below.drew ?_ | with_reducible refine below_then ?_ (by with_reducible assumption)))⟩
          case round =>
            obtain ⟨k2, hk2, rfl, hal0, hb7⟩ := hrel
            have hal := Lib.hid hal0
            clear hal0 q0 q1 q2 q3 q4 q5 q6
            have hbR : Below W.heap.size W wr := hbc.trans (hb7.mono hbc.size)
            have hbwq : Below w.heap.size w wr := hbW.trans (hbR.mono (by omega))
            have hbwz := hbwq.size
            by_cases hlt : k2 < n0
            rotate_left
            · have hs := Lib.hid (show vmB x fs tr x2 x3 x4 x5 = true by rw [hvm.out, HL0.out, show n0 = k2 by omega]; exact hal.out)
              go_wp2_with fail
              go_ret
              exact RetB.mk hs.out.symm hbwq
            obtain ⟨b, o, y0, y1, y2, A3, n3, c3, s3, A4, n4, c4, s4, A5, n5, c5, s5, y6, y7, y8, y9, y10, rfl, _, hbF, hl0, j0, j1, j2, hS3, hS4, hS5, j6, j7, j8, j9, e0, e1, e2, e3, e4, e5, e6, e7, e8, e9, e10⟩ := Frame_at (h0.below hbwq hh) hlt
            have hvk0 := vfB_at (x := x) (hle2.out k2 hlt) hl0
            simp only [frOff] at hvk0
            have hoff : (y10 && k2 == 0) = false := by
              cases k2 with
              | zero =>
                have := off0_at (hle2.out 0 hlt) hl0
                rw [OZ.out] at this
                simp only [frOff] at this
                rw [← this]; rfl
              | succ k => simp
            rw [hoff] at hvk0
            obtain ⟨u, hu⟩ : ∃ u : Nat, (k2 + 1 < n0 ∧ u = k2 + 1) ∨ (k2 + 1 = n0 ∧ u = k2) := by
              by_cases e : k2 + 1 < n0
              · exact ⟨k2 + 1, Or.inl ⟨e, rfl⟩⟩
              · exact ⟨k2, Or.inr ⟨by omega, rfl⟩⟩
            have hun : u < n0 := by omega
            have hmin : min ((k2 : Int) + 1) ((n0 : Int) - 1) = (u : Int) := by omega
            replace hmin := Lib.hid hmin
            obtain ⟨b', o', ya0, ya1, ya2, B3, na3, ca3, sa3, B4, na4, ca4, sa4, B5, na5, ca5, sa5, ya6, ya7, ya8, ya9, ya10, he, _, hbF', hla, ja0, ja1, ja2, hSa3, hSa4, hSa5, ja6, ja7, ja8, ja9, ea0, ea1, ea2, ea3, ea4, ea5, ea6, ea7, ea8, ea9, ea10⟩ := Frame_at (h0.below hbwq hh) hun
            cases he
            obtain ⟨lb, LB⟩ : ∃ r, ((k2 : Int) == (n0 : Int) - 1) = r := ⟨_, rfl⟩
            have hlb : fs[k2 + 1]? = if lb = true then none else some (ya0, ya1, ya2, sa3, sa4, sa5, ya6, ya7, ya8, ya9, ya10) := by
              rcases hu with ⟨h1', h2'⟩ | ⟨h1', h2'⟩
              · have : lb = false := by rw [← LB]; simp; omega
                subst h2'
                rw [this, if_neg (by simp), List.getElem?_eq_getElem (hle2.out _ h1'), hla]
              · have : lb = true := by rw [← LB]; simp; omega
                rw [this, if_pos rfl]
                exact List.getElem?_eq_none (by have := HL0.out; omega)
            rw [hlb, Bool.not_false, Bool.and_true] at hvk0
            obtain ⟨fb, FB⟩ : ∃ fb, vfB x fs k2 = fb := ⟨_, rfl⟩
            have hvk := Lib.hid (hvk0.symm.trans FB)
            have FBh := Lib.hid FB
            clear hvk0 hlb hl0 hla hoff FB
            have q1w : IntKind.i64.wrap ((k2 : Int) + 1) = (k2 : Int) + 1 := IntWalk.i64_in _ (by omega)
            have q2w : IntKind.i64.wrap ((n0 : Int) - 1) = (n0 : Int) - 1 := IntWalk.i64_in _ (by omega)
            have huI : (u : Int) < (n0 : Int) := by omega
            have hu0 : (0 : Int) ≤ (u : Int) := by omega
            obtain ⟨q0, q1, q2, q3, q4, q5, q6⟩ := hS.out wr hbR
            go_upto_region 9 with fail
            obtain ⟨V, hV⟩ : ∃ V, V = wr.alloc (.cells #[.int .i64 y0, .int .i64 y1, .int .i64 y2, .slice A3 n3 c3, .slice A4 n4 c4, .slice A5 n5 c5, .int .i64 y6, .int .i64 y7, .int .i64 y8, .int .i64 y9, .bool y10] 95) := ⟨_, rfl⟩
            have hbV : Below wr.heap.size wr V := by rw [hV]; (repeat (first | with_reducible exact Below.refl _ _ | with_reducible assumption | with_reducible refine below_alloc ?_ _ | ((with_reducible refine Below.setCell ?_ ?_ _); rotate_left; (· first | exact Nat.le_refl _ | (simp; done) | (simp; omega))) | with_reducible refine below_drewN ?_ _ | with_reducible refine Below.drew ?_ | with_reducible refine below_then ?_ (by with_reducible assumption)))
            have hX := Lib.hid (show ∀ V', Below V.heap.size V V' → V'.cell? ⟨w.heap.size, 0, none⟩ = some (.slice A n c) ∧ V'.cell? ⟨w.heap.size + 1, 0, none⟩ = some (.slice (some ⟨b, o, none⟩) n0 c0) ∧ V'.cell? ⟨wr.heap.size, 0, none⟩ = some (.int .i64 y0) ∧ V'.cell? ⟨wr.heap.size, 1, none⟩ = some (.int .i64 y1) ∧ V'.cell? ⟨wr.heap.size, 2, none⟩ = some (.int .i64 y2) ∧ V'.cell? ⟨wr.heap.size, 3, none⟩ = some (.slice A3 n3 c3) ∧ V'.cell? ⟨wr.heap.size, 4, none⟩ = some (.slice A4 n4 c4) ∧ V'.cell? ⟨wr.heap.size, 5, none⟩ = some (.slice A5 n5 c5) ∧ V'.cell? ⟨wr.heap.size, 6, none⟩ = some (.int .i64 y6) ∧ V'.cell? ⟨wr.heap.size, 7, none⟩ = some (.int .i64 y7) ∧ V'.cell? ⟨wr.heap.size, 8, none⟩ = some (.int .i64 y8) ∧ V'.cell? ⟨wr.heap.size, 9, none⟩ = some (.int .i64 y9) ∧ V'.cell? ⟨wr.heap.size, 10, none⟩ = some (.bool y10) ∧ V'.cell? ⟨b, o + u * 11, none⟩ = some (.int .i64 ya0) ∧ V'.cell? ⟨b, o + u * 11 + 1, none⟩ = some (.int .i64 ya1) ∧ V'.cell? ⟨b, o + u * 11 + 2, none⟩ = some (.int .i64 ya2) ∧ V'.cell? ⟨b, o + u * 11 + 3, none⟩ = some (.slice B3 na3 ca3) ∧ V'.cell? ⟨b, o + u * 11 + 4, none⟩ = some (.slice B4 na4 ca4) ∧ V'.cell? ⟨b, o + u * 11 + 5, none⟩ = some (.slice B5 na5 ca5) ∧ V'.cell? ⟨b, o + u * 11 + 6, none⟩ = some (.int .i64 ya6) ∧ V'.cell? ⟨b, o + u * 11 + 7, none⟩ = some (.int .i64 ya7) ∧ V'.cell? ⟨b, o + u * 11 + 8, none⟩ = some (.int .i64 ya8) ∧ V'.cell? ⟨b, o + u * 11 + 9, none⟩ = some (.int .i64 ya9) ∧ V'.cell? ⟨b, o + u * 11 + 10, none⟩ = some (.bool ya10) from (fun V' hV' => by
              refine ⟨below_cell hV' ?_, below_cell hV' ?_, below_cell hV' ?_, below_cell hV' ?_, below_cell hV' ?_, below_cell hV' ?_, below_cell hV' ?_, below_cell hV' ?_, below_cell hV' ?_, below_cell hV' ?_, below_cell hV' ?_, below_cell hV' ?_, below_cell hV' ?_, below_cell hV' ?_, below_cell hV' ?_, below_cell hV' ?_, below_cell hV' ?_, below_cell hV' ?_, below_cell hV' ?_, below_cell hV' ?_, below_cell hV' ?_, below_cell hV' ?_, below_cell hV' ?_, below_cell hV' ?_⟩ <;> (rw [hV]; first | (simp [go_sem]; done) | (refine below_cell (by (repeat (first | with_reducible exact Below.refl _ _ | with_reducible assumption | with_reducible refine below_alloc ?_ _ | ((with_reducible refine Below.setCell ?_ ?_ _); rotate_left; (· first | exact Nat.le_refl _ | (simp; done) | (simp; omega))) | with_reducible refine below_drewN ?_ _ | with_reducible refine Below.drew ?_ | with_reducible refine below_then ?_ (by with_reducible assumption))) : Below wr.heap.size wr _) ?_; assumption))))
            rw [← hV]
            clear hV
            have hbwV : Below w.heap.size w V := hbwq.trans (hbV.mono hbwz)
            have hbwVz := hbwV.size
            have hboV : Below wo.heap.size wo V := hb7.trans (hbV.mono hb7.size)
            clear q0 q1 q2 q3 q4 q5 q6 e0 e1 e2 e3 e4 e5 e6 e7 e8 e9 e10 ea0 ea1 ea2 ea3 ea4 ea5 ea6 ea7 ea8 ea9 ea10
            go_cut [95] (fun s wx => s = .bool (!fb) ∧ Below V.heap.size V wx)
            case first =>
              as_aux_lemma =>
                obtain ⟨sc0, sc1, sc2, sc3, sc4, sc5, sc6, sc7, sc8, sc9, sc10, sc11, sc12, sc13, sc14, sc15, sc16, sc17, sc18, sc19, sc20, sc21, sc22, sc23⟩ := hX.out V (Below.refl _ _)
                go_region_held3 (fun V' => V'.cell? ⟨w.heap.size, 0, none⟩ = some (.slice A n c) ∧ V'.cell? ⟨w.heap.size + 1, 0, none⟩ = some (.slice (some ⟨b, o, none⟩) n0 c0) ∧ V'.cell? ⟨wr.heap.size, 0, none⟩ = some (.int .i64 y0) ∧ V'.cell? ⟨wr.heap.size, 1, none⟩ = some (.int .i64 y1) ∧ V'.cell? ⟨wr.heap.size, 2, none⟩ = some (.int .i64 y2) ∧ V'.cell? ⟨wr.heap.size, 3, none⟩ = some (.slice A3 n3 c3) ∧ V'.cell? ⟨wr.heap.size, 4, none⟩ = some (.slice A4 n4 c4) ∧ V'.cell? ⟨wr.heap.size, 5, none⟩ = some (.slice A5 n5 c5) ∧ V'.cell? ⟨wr.heap.size, 6, none⟩ = some (.int .i64 y6) ∧ V'.cell? ⟨wr.heap.size, 7, none⟩ = some (.int .i64 y7) ∧ V'.cell? ⟨wr.heap.size, 8, none⟩ = some (.int .i64 y8) ∧ V'.cell? ⟨wr.heap.size, 9, none⟩ = some (.int .i64 y9) ∧ V'.cell? ⟨wr.heap.size, 10, none⟩ = some (.bool y10) ∧ V'.cell? ⟨b, o + u * 11, none⟩ = some (.int .i64 ya0) ∧ V'.cell? ⟨b, o + u * 11 + 1, none⟩ = some (.int .i64 ya1) ∧ V'.cell? ⟨b, o + u * 11 + 2, none⟩ = some (.int .i64 ya2) ∧ V'.cell? ⟨b, o + u * 11 + 3, none⟩ = some (.slice B3 na3 ca3) ∧ V'.cell? ⟨b, o + u * 11 + 4, none⟩ = some (.slice B4 na4 ca4) ∧ V'.cell? ⟨b, o + u * 11 + 5, none⟩ = some (.slice B5 na5 ca5) ∧ V'.cell? ⟨b, o + u * 11 + 6, none⟩ = some (.int .i64 ya6) ∧ V'.cell? ⟨b, o + u * 11 + 7, none⟩ = some (.int .i64 ya7) ∧ V'.cell? ⟨b, o + u * 11 + 8, none⟩ = some (.int .i64 ya8) ∧ V'.cell? ⟨b, o + u * 11 + 9, none⟩ = some (.int .i64 ya9) ∧ V'.cell? ⟨b, o + u * 11 + 10, none⟩ = some (.bool ya10)) (first | exact ⟨sc0, sc1, sc2, sc3, sc4, sc5, sc6, sc7, sc8, sc9, sc10, sc11, sc12, sc13, sc14, sc15, sc16, sc17, sc18, sc19, sc20, sc21, sc22, sc23⟩ | exact hX.out _ (show Below V.heap.size V _ by (repeat (first | with_reducible exact Below.refl _ _ | with_reducible assumption | with_reducible refine below_alloc ?_ _ | ((with_reducible refine Below.setCell ?_ ?_ _); rotate_left; (· first | exact Nat.le_refl _ | omega | (simp; done) | (simp; omega))) | with_reducible refine below_drewN ?_ _ | with_reducible refine Below.drew ?_ | with_reducible refine below_then ?_ (by with_reducible assumption)))))
                  (first
                    | (go_at_call 165; ((with_reducible refine (specL1Least _ _ _).mono ?_); rintro e w6 ⟨rfl, rfl⟩; rw [hmin.out]))
                    | (go_at_call 164; ((with_reducible refine (specL8FrameGood _ lo hi A n c x y0 y1 y2 A3 n3 c3 s3 A4 n4 c4 s4 A5 n5 c5 s5 y6 y7 y8 y9 y10 ya0 ya1 ya2 (.slice B3 na3 ca3) (.slice B4 na4 ca4) (.slice B5 na5 ca5) ya6 ya7 ya8 ya9 ya10 lb (ya0, ya1, ya2, sa3, sa4, sa5, ya6, ya7, ya8, ya9, ya10) rfl rfl (h.below (hbwV.trans (show Below w.heap.size V _ by (repeat (first | with_reducible exact Below.refl _ _ | with_reducible assumption | with_reducible refine below_alloc ?_ _ | ((with_reducible refine Below.setCell ?_ ?_ _); rotate_left; (· first | exact Nat.le_refl _ | omega | (simp; done) | (simp; omega))) | with_reducible refine below_drewN ?_ _ | with_reducible refine Below.drew ?_ | with_reducible refine below_then ?_ (by with_reducible assumption))))) hh) (hS3.below (hbV.trans (show Below wr.heap.size V _ by (repeat (first | with_reducible exact Below.refl _ _ | with_reducible assumption | with_reducible refine below_alloc ?_ _ | ((with_reducible refine Below.setCell ?_ ?_ _); rotate_left; (· first | exact Nat.le_refl _ | omega | (simp; done) | (simp; omega))) | with_reducible refine below_drewN ?_ _ | with_reducible refine Below.drew ?_ | with_reducible refine below_then ?_ (by with_reducible assumption))))) (by omega)) (hS4.below (hbV.trans (show Below wr.heap.size V _ by (repeat (first | with_reducible exact Below.refl _ _ | with_reducible assumption | with_reducible refine below_alloc ?_ _ | ((with_reducible refine Below.setCell ?_ ?_ _); rotate_left; (· first | exact Nat.le_refl _ | omega | (simp; done) | (simp; omega))) | with_reducible refine below_drewN ?_ _ | with_reducible refine Below.drew ?_ | with_reducible refine below_then ?_ (by with_reducible assumption))))) (by omega)) (hS5.below (hbV.trans (show Below wr.heap.size V _ by (repeat (first | with_reducible exact Below.refl _ _ | with_reducible assumption | with_reducible refine below_alloc ?_ _ | ((with_reducible refine Below.setCell ?_ ?_ _); rotate_left; (· first | exact Nat.le_refl _ | omega | (simp; done) | (simp; omega))) | with_reducible refine below_drewN ?_ _ | with_reducible refine Below.drew ?_ | with_reducible refine below_then ?_ (by with_reducible assumption))))) (by omega)) (by first | omega | (simp; done) | (simp; omega)) HG.out).mono ?_); rintro e w7 ⟨rfl, hb8⟩; rw [hvk.out])))
                all_goals
                  go_wp2_with fail
                  go_meet
                  case rel => exact ⟨rfl, by (repeat (first | with_reducible exact Below.refl _ _ | with_reducible assumption | with_reducible refine below_alloc ?_ _ | ((with_reducible refine Below.setCell ?_ ?_ _); rotate_left; (· first | exact Nat.le_refl _ | omega | (simp; done) | (simp; omega))) | with_reducible refine below_drewN ?_ _ | with_reducible refine Below.drew ?_ | with_reducible refine below_then ?_ (by with_reducible assumption)))⟩
            case rest =>
              as_aux_lemma =>
                obtain ⟨rfl, hbe⟩ := hcut
                have hboc : Below wo.heap.size wo wc := hboV.trans (hbe.mono hboV.size)
                have hbwc : Below w.heap.size w wc := hbwV.trans (hbe.mono hbwVz)
                cases fb
                · have hn := Lib.hid (show vmB x fs tr x2 x3 x4 x5 = false by rw [hvm.out]; exact all_false (p := vfB x fs) (k := k2) (by rw [List.length_range]; exact hle2.out k2 hlt) (by rw [List.getElem_range, FBh.out]))
                  go_wp2_with fail
                  go_ret
                  exact RetB.mk hn.out.symm hbwc
                · have hs := Lib.hid (all_range_succ hal.out FBh.out)
                  go_wp2_with fail
                  go_roundw
                  case rel => exact ⟨k2 + 1, by omega, by go_num, hs.out, hboc⟩
                  case measure => simp [intOf]; omega
end Go.Proofs.YtmnkgcjbckamnaaGreat
