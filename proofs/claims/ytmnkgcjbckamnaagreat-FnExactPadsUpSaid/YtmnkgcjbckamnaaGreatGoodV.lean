/- Whether a machine is good: the program's walk. -/
import Derived.Test.YtmnkgcjbckamnaaGreatGoodVP
import Derived.Deep.DeepCutAuto
import Derived.Deep.RegionHeld3
import Derived.Deep.QuietTactic
import Derived.BigQuiet
import Derived.BigGuardPart
set_option linter.unusedVariables false
set_option linter.unusedSimpArgs false
set_option maxRecDepth 100000
namespace Go.Proofs.YtmnkgcjbckamnaaGreat
open Go.RowKit
attribute [local irreducible] wpList
theorem Tryz.infoInts : (Tryz.prog.info? 26).map (fun i => (i.zero, i.size, i.bytes)) = some (some (.slice none 0 0), 1, 24) := by kernel_rfl
set_option maxHeartbeats 16000000 in
theorem implIsVm (w : World) (lo hi : Nat) (A : Option Addr) (n c : Nat) (x : List Code) (A0 : Option Addr) (n0 c0 : Nat) (fs : List Frame) (A1 : Option Addr) (n1 c1 : Nat) (tr : List Int) (x2 x3 x4 x5 : Int) (v6 : Value)
    (h : Sl CodeR w lo hi A n c x) (h0 : Sl FrameR w lo hi A0 n0 c0 fs) (h1 : Sl intR w lo hi A1 n1 c1 tr) (hh : hi ≤ w.heap.size) (hg : goodI x = true) (i4 : I64 x4) :
    Calls Tryz.prog 108 #[.agg #[.slice A n c], .agg #[.slice A0 n0 c0, .slice A1 n1 c1, .int .i64 x2, .int .i64 x3, .int .i64 x4, .int .i64 x5, v6]] w (RetB (vmB x fs tr x2 x3 x4 x5) w) := by
  have HL := Lib.hid h.lenEq
  have HL0 := Lib.hid h0.lenEq
  have hg0 := goodI_iff.1 hg
  have hlen := sizedB_len hg0.1
  rw [HL.out] at hlen
  have hmem := Lib.hid (sizedB_mem hg0.1)
  have hcod := Lib.hid hg0.2.2
  clear hg0
  have HG := Lib.hid hg
  clear hg
  have hv : ∀ b : Bool, ∃ c, b = c := fun b => ⟨b, rfl⟩
  obtain ⟨b1, B1⟩ := hv (tr.all small)
  obtain ⟨d4, D4⟩ := hv (small x4)
  obtain ⟨d2, D2⟩ := hv (inB x2 0 10)
  obtain ⟨d3, D3⟩ := hv (inB x3 0 4)
  obtain ⟨d5, D5⟩ := hv (inB x5 0 1000000)
  obtain ⟨p, P⟩ := hv (preB tr x2 x3 x4 x5)
  have P2 : preB tr x2 x3 x4 x5 = (b1 && d4 && d2 && d3 && d5) := by unfold preB; rw [B1, D4, D2, D3, D5]
  rw [P] at P2
  replace P := Lib.hid P
  replace P2 := Lib.hid P2
  replace B1 := Lib.hid B1
  replace D4 := Lib.hid D4
  replace D2 := Lib.hid D2
  replace D3 := Lib.hid D3
  replace D5 := Lib.hid D5
  obtain ⟨z, Z⟩ := hv (cntB x3 n0)
  replace Z := Lib.hid Z
  clear hv
  go_enter Tryz.func108, Tryz.ntmps108
  go_upto_region 1 with fail
  obtain ⟨W, hW⟩ : ∃ W, W = (w.alloc (.cells #[.slice A n c] 35)).alloc (.cells #[.slice A0 n0 c0, .slice A1 n1 c1, .int .i64 x2, .int .i64 x3, .int .i64 x4, .int .i64 x5, v6] 55) := ⟨_, rfl⟩
  have hbW : Below w.heap.size w W := by rw [hW]; (repeat (first | with_reducible exact Below.refl _ _ | with_reducible assumption | with_reducible refine below_alloc ?_ _ | ((with_reducible refine Below.setCell ?_ ?_ _); rotate_left; (· first | exact Nat.le_refl _ | (simp; done) | (simp; omega))) | with_reducible refine below_drewN ?_ _ | with_reducible refine Below.drew ?_ | with_reducible refine below_then ?_ (by with_reducible assumption)))
  have hzW : w.heap.size + 2 ≤ W.heap.size := by rw [hW]; simp
  have hS := Lib.hid (show ∀ V, Below W.heap.size W V → V.cell? ⟨w.heap.size, 0, none⟩ = some (.slice A n c) ∧ V.cell? ⟨w.heap.size + 1, 0, none⟩ = some (.slice A0 n0 c0) ∧ V.cell? ⟨w.heap.size + 1, 1, none⟩ = some (.slice A1 n1 c1) ∧ V.cell? ⟨w.heap.size + 1, 2, none⟩ = some (.int .i64 x2) ∧ V.cell? ⟨w.heap.size + 1, 3, none⟩ = some (.int .i64 x3) ∧ V.cell? ⟨w.heap.size + 1, 4, none⟩ = some (.int .i64 x4) ∧ V.cell? ⟨w.heap.size + 1, 5, none⟩ = some (.int .i64 x5) from (fun V hV => by refine ⟨below_cell hV ?_, below_cell hV ?_, below_cell hV ?_, below_cell hV ?_, below_cell hV ?_, below_cell hV ?_, below_cell hV ?_⟩ <;> (rw [hW]; simp [go_sem])))
  rw [← hW]
  clear hW
  go_cut [39] (fun s wx => s = .bool (!p) ∧ Below W.heap.size W wx)
  case first =>
    as_aux_lemma =>
      obtain ⟨q0, q1, q2, q3, q4, q5, q6⟩ := hS.out W (Below.refl _ _)
      go_wp2_with (first
        | (go_at_call 167; ((with_reducible refine (implIsSmall2 _ x4 i4).mono ?_); rintro e w3 ⟨rfl, rfl⟩; rw [D4.out]; cases d4))
        | (go_at_call 116; ((with_reducible refine (implAreSmall _ lo hi n1 c1 A1 tr (h1.below hbW hh) (by omega)).mono ?_); rintro e w4 ⟨rfl, hb4⟩; obtain ⟨q0, q1, q2, q3, q4, q5, q6⟩ := hS.out w4 hb4; rw [B1.out]; cases b1))
        | (go_at_call 46; ((with_reducible refine (implWithin _ x2 _ _).mono ?_); rintro e w3 ⟨rfl, rfl⟩; rw [D2.out]; cases d2))
        | (go_at_call 46; ((with_reducible refine (implWithin _ x3 _ _).mono ?_); rintro e w3 ⟨rfl, rfl⟩; rw [D3.out]; cases d3))
        | (go_at_call 46; ((with_reducible refine (implWithin _ x5 _ _).mono ?_); rintro e w3 ⟨rfl, rfl⟩; rw [D5.out]; cases d5)))
      all_goals
        go_meet
        case rel => exact ⟨by rw [P2.out]; rfl, by (repeat (first | with_reducible exact Below.refl _ _ | with_reducible assumption | with_reducible refine below_alloc ?_ _ | ((with_reducible refine Below.setCell ?_ ?_ _); rotate_left; (· first | exact Nat.le_refl _ | (simp; done) | (simp; omega))) | with_reducible refine below_drewN ?_ _ | with_reducible refine Below.drew ?_ | with_reducible refine below_then ?_ (by with_reducible assumption)))⟩
  case rest =>
    as_aux_lemma =>
      obtain ⟨rfl, hbc⟩ := hcut
      cases p
      · have hn := Lib.hid (show vmB x fs tr x2 x3 x4 x5 = false by unfold vmB; rw [P.out]; rfl)
        go_wp2_with fail
        go_ret
        exact RetB.mk hn.out.symm (below_then hbW (hbc.mono (by omega)))
      obtain ⟨q0, q1, q2, q3, q4, q5, q6⟩ := hS.out wc hbc
      go_upto_region 3 with fail
      go_cut [64] (fun s wx => s = .bool (!z) ∧ Below W.heap.size W wx)
      case first =>
        as_aux_lemma =>
          obtain ⟨r0, R0⟩ : ∃ r, (x3 == 0) = r := ⟨_, rfl⟩
          obtain ⟨r4, R4⟩ : ∃ r, (x3 == 4) = r := ⟨_, rfl⟩
          obtain ⟨rn, RN⟩ : ∃ r, ((n0 : Int) == 0) = r := ⟨_, rfl⟩
          have R0' : (x3 != 0) = !r0 := by rw [← R0]; rfl
          have R4' : (x3 != 4) = !r4 := by rw [← R4]; rfl
          have RN' : decide ((n0 : Int) > 0) = !rn := by
            rw [← RN]
            by_cases e : n0 = 0
            · subst e; rfl
            · rw [show ((n0 : Int) == 0) = false by simpa using e]; simp; omega
          have RN0 := Lib.hid (show decide (0 < n0) = !rn by rw [← RN']; simp)
          have Z2 := Lib.hid (show z = !((r0 && rn) || (!r0 && !r4 && !rn)) by rw [← Z.out, ← R0', ← R4', ← RN', ← R0, ← RN]; rfl)
          cases r0 <;> cases r4 <;> cases rn
          all_goals
            simp only [Bool.not_true, Bool.not_false] at R0' R4' RN'
            go_wp2_with fail
            go_meet
            case rel => exact ⟨by first | (rw [Z2.out]; rfl) | (rw [Z2.out, RN0.out]; rfl), hbc⟩
      case rest =>
        as_aux_lemma =>
          clear q0 q1 q2 q3 q4 q5 q6
          obtain ⟨rfl, hbd⟩ := hcut
          cases z
          · have hn := Lib.hid (show vmB x fs tr x2 x3 x4 x5 = false by unfold vmB; rw [HL0.out, Z.out]; simp)
            go_wp2_with fail
            go_ret
            exact RetB.mk hn.out.symm (below_then hbW (hbd.mono (by omega)))
          have hvm := Lib.hid (show vmB x fs tr x2 x3 x4 x5 = (List.range fs.length).all (vfB x fs) by unfold vmB; rw [HL0.out, Z.out, P.out]; rfl)
          obtain ⟨q0, q1, q2, q3, q4, q5, q6⟩ := hS.out wc hbd
          obtain ⟨inf, hif, hz0, hz1, hz2⟩ := info_parts Tryz.infoInts
          go_wp2_with (at_make; refine wpList_make_full _ rfl _ _ 59 rfl 0 26 inf (.slice none 0 0) 1 Tryz.underlying59 hif hz0 hz1 _ _ _ _ n rfl rfl rfl rfl (by rw [hz2]; omega) (by unfold maxLen; omega) (Nat.zero_le _) ?_)
          intro w4 hown hgr
          have hF := Fill.start (R := sliceR 3 intR) hown
          have hb4 : Below wc.heap.size wc w4 := (Below.refl _ _).grown hgr (Nat.le_refl _) (fun k hk => by cases hk)
          have hzc := hbd.size
          have hbd4 : Below W.heap.size W w4 := hbd.trans (hb4.mono hzc)
          clear hown hgr q0 q1 q2 q3 q4 q5 q6
          obtain ⟨q0, q1, q2, q3, q4, q5, q6⟩ := hS.out w4 hbd4
          go_wp2_with fail
          go_loopw [72] (fun i wr => ∃ k : Nat, k ≤ n ∧ i = .int .i64 k ∧ ∃ F, Fill (sliceR 3 intR) wr 26 F wc.heap.size n ((hsF x).take k) ∧ (∀ g, g ∈ F → wc.heap.size ≤ g) ∧ Below wc.heap.size wc wr) (fun i _ => n - (intOf i).toNat)
          case atStart => exact ⟨0, Nat.zero_le _, rfl, _, hF, (by simp), hb4⟩
          case round =>
            obtain ⟨k, hk, rfl, F, hF, hFg, hb⟩ := hrel
            have hbr : Below W.heap.size W wr := hbd.trans (hb.mono hzc)
            clear q0 q1 q2 q3 q4 q5 q6
            obtain ⟨q0, q1, q2, q3, q4, q5, q6⟩ := hS.out wr hbr
            have hbwr : Below w.heap.size w wr := hbW.trans (hbr.mono (by omega))
            have hsr := hbr.size
            by_cases hlt : k < n
            · have hkx : k < x.length := by have := HL.out; omega
              have hln := checkH_len (hcod.out _ (List.getElem_mem hkx))
              have hl64 := Lib.hid hln.2
              have hel := Lib.hid (show (hsF x).length = n by rw [hsF_len]; exact HL.out)
              clear hln
              go_wp2_with fail
              refine (implCheckCode _ lo hi A n c x k (h.below hbwr hh) (by omega) hlt hmem.out).mono ?_
              rintro e w5 ⟨A5, n5, c5, rfl, hI, hb5⟩
              have hF5 := hF.below hb5
              have ho := own_ints hI hl64.out
              have hbF : ∀ g, g ∈ (Value.slice A5 n5 c5).ownBlock.toList → wr.heap.size ≤ g := fun g hg => (World.ownsRow.lt hI g (by simpa using hg)).1
              have hFl := hF.lt
              obtain ⟨u0, hu0⟩ : ∃ u, w5.cell? ⟨wc.heap.size, k, none⟩ = some u := by have := hF5.cell' (k := k) (by rw [List.length_take, hel.out]; omega) hlt (j := 0) (by decide); rwa [show k * (sliceR 3 intR).size + 0 = k from Nat.mul_one k] at this
              have f0 := hF5.frozen k
              have hst := hF5.step' (Fx := (Value.slice A5 n5 c5).ownBlock.toList) (cs := [.slice A5 n5 c5]) hel.out hlt ⟨_, _, _, rfl, by rw [hsF_at hkx]; exact ho⟩ (fun i hi hi' => by have := hbF i hi; have := hFl i hi'; omega)
              rw [show k * (sliceR 3 intR).size = k from Nat.mul_one k] at hst
              have hsb : Below wc.heap.size wc (w5.setCell ⟨wc.heap.size, k, none⟩ (.slice A5 n5 c5)) := (hb.trans (hb5.mono hb.size)).setCell (p := ⟨wc.heap.size, k, none⟩) (Nat.le_refl _) _
              have hFg2 : ∀ g, g ∈ F ++ (Value.slice A5 n5 c5).ownBlock.toList → wc.heap.size ≤ g := fun g hg => by
                rcases List.mem_append.1 hg with hg | hg
                · exact hFg g hg
                · have := hbF g hg; have := hb.size; omega
              clear hI ho hF hF5
              go_wp2_with fail
              go_roundw
              case rel => exact ⟨k + 1, by omega, by go_num, _, hst, hFg2, hsb⟩
              case measure => simp [intOf]; omega
            · have hal := hF.all (l := hsF x) (by rw [hsF_len]; exact HL.out) (by omega)
              have hSS := hal.sl
              clear hal hF hFg
              obtain ⟨wo, hwo⟩ : ∃ wo, wo = wr := ⟨_, rfl⟩
              subst hwo
              go_wp2_with fail
              have hle2 := Lib.hid (show ∀ k, k < n0 → k < fs.length from fun k hk => by have := HL0.out; omega)
              have hn0 := h0.lenLe
              go_loopw [88] (fun i wq => ∃ k : Nat, k ≤ n0 ∧ i = .int .i64 k ∧ (List.range k).all (vfB x fs) = true ∧ Below wo.heap.size wo wq) (fun i _ => n0 - (intOf i).toNat)
              case atStart => exact ⟨0, Nat.zero_le _, rfl, rfl, by (repeat (first | with_reducible exact Below.refl _ _ | with_reducible assumption | with_reducible refine below_alloc ?_ _ | ((with_reducible refine Below.setCell ?_ ?_ _); rotate_left; (· first | exact Nat.le_refl _ | (simp; done) | (simp; omega))) | with_reducible refine below_drewN ?_ _ | with_reducible refine Below.drew ?_ | with_reducible refine below_then ?_ (by with_reducible assumption)))⟩
              case round =>
                obtain ⟨k2, hk2, rfl, hal0, hb7⟩ := hrel
                have hal := Lib.hid hal0
                clear hal0
                clear q0 q1 q2 q3 q4 q5 q6
                have hbR : Below W.heap.size W wr := hbr.trans (hb7.mono hsr)
                have hbwq : Below w.heap.size w wr := hbW.trans (hbR.mono (by omega))
                have hbwz := hbwq.size
                have hbrz := hbR.size
                have hozw : wo.heap.size ≤ wr.heap.size := hb7.size
                by_cases hlt : k2 < n0
                rotate_left
                · have hs := Lib.hid (show vmB x fs tr x2 x3 x4 x5 = true by rw [hvm.out, HL0.out, show n0 = k2 by omega]; exact hal.out)
                  go_wp2_with fail
                  go_ret
                  exact RetB.mk hs.out.symm hbwq
                obtain ⟨b, o, y0, y1, y2, A3, n3, c3, s3, A4, n4, c4, s4, A5, n5, c5, s5, y6, y7, y8, y9, y10, rfl, _, hbF, hl0, j0, j1, j2, hS3, hS4, hS5, j6, j7, j8, j9, e0, e1, e2, e3, e4, e5, e6, e7, e8, e9, e10⟩ := Frame_at (h0.below hbwq hh) hlt
                have hvk0 := vfB_at (x := x) (hle2.out k2 hlt) hl0
                simp only [frOff] at hvk0
                obtain ⟨fb, FB⟩ : ∃ fb, frB x (y0, y1, y2, s3, s4, s5, y6, y7, y8, y9, y10) = fb := ⟨_, rfl⟩
                obtain ⟨rk, RK⟩ : ∃ r, ((k2 : Int) == 0) = r := ⟨_, rfl⟩
                obtain ⟨t, T⟩ : ∃ t, (fb && !(y10 && rk)) = t := ⟨_, rfl⟩
                have RK2 : (k2 == 0) = rk := by rw [← RK]; cases k2 <;> rfl
                rw [FB, RK2, T] at hvk0
                have hvk := Lib.hid hvk0
                replace FB := Lib.hid FB
                replace T := Lib.hid T
                clear hvk0 hl0 RK2
                obtain ⟨q0, q1, q2, q3, q4, q5, q6⟩ := hS.out wr hbR
                go_upto_region 14 with fail
                obtain ⟨U, hU⟩ : ∃ U, U = wr.alloc (.cells #[.int .i64 y0, .int .i64 y1, .int .i64 y2, .slice A3 n3 c3, .slice A4 n4 c4, .slice A5 n5 c5, .int .i64 y6, .int .i64 y7, .int .i64 y8, .int .i64 y9, .bool y10] 95) := ⟨_, rfl⟩
                have hbU : Below wr.heap.size wr U := by rw [hU]; (repeat (first | with_reducible exact Below.refl _ _ | with_reducible assumption | with_reducible refine below_alloc ?_ _ | ((with_reducible refine Below.setCell ?_ ?_ _); rotate_left; (· first | exact Nat.le_refl _ | (simp; done) | (simp; omega))) | with_reducible refine below_drewN ?_ _ | with_reducible refine Below.drew ?_ | with_reducible refine below_then ?_ (by with_reducible assumption)))
                have hzU : wr.heap.size + 1 ≤ U.heap.size := by rw [hU]; simp
                have hT := Lib.hid (show ∀ V, Below U.heap.size U V → V.cell? ⟨wr.heap.size, 1, none⟩ = some (.int .i64 y1) ∧ V.cell? ⟨wr.heap.size, 2, none⟩ = some (.int .i64 y2) ∧ V.cell? ⟨wr.heap.size, 3, none⟩ = some (.slice A3 n3 c3) ∧ V.cell? ⟨wr.heap.size, 10, none⟩ = some (.bool y10) from (fun V hV => by refine ⟨below_cell hV ?_, below_cell hV ?_, below_cell hV ?_, below_cell hV ?_⟩ <;> (rw [hU]; simp [go_sem])))
                have HV := Lib.hid (show U.cell? ⟨wr.heap.size, 0, none⟩ = some (.int .i64 y0) ∧ U.cell? ⟨wr.heap.size, 4, none⟩ = some (.slice A4 n4 c4) ∧ U.cell? ⟨wr.heap.size, 5, none⟩ = some (.slice A5 n5 c5) ∧ U.cell? ⟨wr.heap.size, 6, none⟩ = some (.int .i64 y6) ∧ U.cell? ⟨wr.heap.size, 7, none⟩ = some (.int .i64 y7) ∧ U.cell? ⟨wr.heap.size, 8, none⟩ = some (.int .i64 y8) ∧ U.cell? ⟨wr.heap.size, 9, none⟩ = some (.int .i64 y9) from by rw [hU]; refine ⟨?_, ?_, ?_, ?_, ?_, ?_, ?_⟩ <;> simp [go_sem])
                rw [← hU]
                clear hU
                have hbRU : Below W.heap.size W U := hbR.trans (hbU.mono hbrz)
                have hbwU : Below w.heap.size w U := hbwq.trans (hbU.mono hbwz)
                clear q0 q1 q2 q3 q4 q5 q6 e0 e1 e2 e3 e4 e5 e6 e7 e8 e9 e10
                go_cut [104] (fun s wx => s = .bool (!t) ∧ Below U.heap.size U wx)
                case first =>
                  as_aux_lemma =>
                    obtain ⟨q0, q1, q2, q3, q4, q5, q6⟩ := hS.out U hbRU
                    obtain ⟨f0, f1, f2, f3⟩ := hT.out U (Below.refl _ _)
                    obtain ⟨g0, g4, g5, g6, g7, g8, g9⟩ := HV.out
                    go_wp2_with (go_at_call 168; ((with_reducible refine (implIsFrame _ lo hi A n c x y0 y1 y2 A3 n3 c3 s3 A4 n4 c4 s4 A5 n5 c5 s5 y6 y7 y8 y9 y10 (h.below hbwU hh) (hS3.below hbU (by omega)) (hS4.below hbU (by omega)) (hS5.below hbU (by omega)) (by omega) j0 j6 j8 (by have := HL.out; omega)).mono ?_); rintro e w6 ⟨rfl, hb6⟩; clear q0 q1 q2 q3 q4 q5 q6 f0 f1 f2 f3 g0 g4 g5 g6 g7 g8 g9; obtain ⟨f0, f1, f2, f3⟩ := hT.out w6 hb6; rw [FB.out]; cases fb <;> cases y10 <;> cases rk))
                    all_goals
                      go_meet
                      case rel => exact ⟨by rw [← T.out]; rfl, by (repeat (first | with_reducible exact Below.refl _ _ | with_reducible assumption | with_reducible refine below_alloc ?_ _ | ((with_reducible refine Below.setCell ?_ ?_ _); rotate_left; (· first | exact Nat.le_refl _ | (simp; done) | (simp; omega))) | with_reducible refine below_drewN ?_ _ | with_reducible refine Below.drew ?_ | with_reducible refine below_then ?_ (by with_reducible assumption)))⟩
                case rest =>
                  as_aux_lemma =>
                    obtain ⟨rfl, hbe⟩ := hcut
                    cases t
                    · have hn := Lib.hid (show vmB x fs tr x2 x3 x4 x5 = false by rw [hvm.out]; exact all_false (p := vfB x fs) (k := k2) (by rw [List.length_range]; exact hle2.out k2 hlt) (by rw [List.getElem_range, hvk.out]; rfl))
                      go_wp2_with fail
                      go_ret
                      exact RetB.mk hn.out.symm (hbwU.trans (hbe.mono (by omega)))
                    have hfr : frB x (y0, y1, y2, s3, s4, s5, y6, y7, y8, y9, y10) = true := by
                      have := T.out
                      rw [Bool.and_eq_true] at this
                      rw [FB.out]; exact this.1
                    have hp := frB_parts hfr
                    simp only at hp
                    obtain ⟨⟨p1, p2⟩, ⟨p3, p4⟩, p5, p6⟩ := hp
                    obtain ⟨j, rfl⟩ := Int.eq_ofNat_of_zero_le p1
                    obtain ⟨a, rfl⟩ := Int.eq_ofNat_of_zero_le p3
                    have hjx : j < x.length := by omega
                    have hj : j < n := by have := HL.out; omega
                    have hcd := codeD_at hjx
                    have hbwe : Below w.heap.size w wc := hbwU.trans (hbe.mono (by omega))
                    obtain ⟨bc, oc, z0, z1, D2, m2, d2, t2, D3, m3, d3, t3, D4, m4, d4, t4, rfl, _, hbb, hlc, _, _, kS2, kS3, kS4, v0, v1, v2, v3, v4⟩ := Code_at (h.below hbwe hh) hj
                    have hc0 := hcod.out _ (List.getElem_mem hjx)
                    have hln := checkH_len hc0
                    have hall := codeF_0 hc0
                    rw [hlc] at hc0 hln hall hcd
                    rw [hcd] at p4 p5 p6
                    have hvk1 := hvk.out
                    rw [hcd] at hvk1
                    simp only at hvk1 hln p4 p5 p6
                    have L3 := kS3.lenEq
                    have ha3 : a < m3 := by omega
                    obtain ⟨bi, oi, op, nn, rfl, _, hbi, hli, io, inn, r0, r1⟩ := Ins_at kS3 ha3
                    rw [insAt_eq (by omega), hli] at hvk1
                    have hbo : Below wo.heap.size wo wc := hb7.trans ((hbU.trans (hbe.mono (by omega))).mono hozw)
                    have hla : a < ((hsF x)[j]'(by rw [hsF_len]; exact hjx)).length := by rw [hsF_at hjx, hlc, hln.1]; omega
                    obtain ⟨n6, c6, b6, o6, hq0, hn6, hq1⟩ := heights_at hSS hj hla
                    replace hq0 := below_cell hbo hq0
                    replace hq1 := below_cell hbo hq1
                    have hhv : hv (checkH x (z0, z1, t2, t3, t4)) (a : Int) = ((hsF x)[j]'(by rw [hsF_len]; exact hjx))[a] := by
                      rw [hv_get (by rw [hln.1]; omega)]
                      simp only [hsF_at hjx, hlc]
                    obtain ⟨hh0, HH⟩ : ∃ hh0, ((hsF x)[j]'(by rw [hsF_len]; exact hjx))[a] = hh0 := ⟨_, rfl⟩
                    rw [HH] at hq1 hhv
                    have HHV := Lib.hid hhv
                    rw [hhv] at hvk1
                    have hn6' : n6 = m3 := by rw [hn6]; simp only [hsF_at hjx, hlc]; rw [hln.1]; exact L3
                    subst hn6'
                    have hvk2 := Lib.hid hvk1
                    have hall' := Lib.hid hall
                    have L3' := Lib.hid L3
                    have hli' := Lib.hid hli
                    have hlc' := Lib.hid hlc
                    have HS3 := Lib.hid hS3.lenEq
                    have hjI : (j : Int) < (n : Int) := by omega
                    have haI : (a : Int) < (n6 : Int) := by omega
                    have hbRe : Below W.heap.size W wc := hbRU.trans (hbe.mono (by omega))
                    obtain ⟨q0, q1, q2, q3, q4, q5, q6⟩ := hS.out wc hbRe
                    obtain ⟨f0, f1, f2, f3⟩ := hT.out wc hbe
                    clear hvk1 hall L3 hli hlc hcd hc0 hln hn6 hhv HH hla p5 p6 hfr v0 v1 v4
                    have hzz := codeSz_all (hmem.out _ (List.getElem_mem hjx))
                    rw [hlc'.out] at hzz
                    have h7 := Lib.hid (fun (e : op = 7) => named_7 hall'.out.1 hzz.2.2.2.2.2 (op, nn) (hli'.out ▸ List.getElem_mem (l := t3) (n := a) (by omega)) e)
                    have h17 := Lib.hid (fun (e : op = 17) => named_17 hall'.out.1 hzz.2.2.2.2.2 (op, nn) (hli'.out ▸ List.getElem_mem (l := t3) (n := a) (by omega)) e)
                    have hhb : -1 ≤ hh0 ∧ hh0 ≤ 40 := by
                      obtain ⟨_, _, _, l, hl1, hl2⟩ := hall'.out
                      obtain ⟨q1', q2', q3'⟩ := heights_ok hl1
                      have e := HHV.out
                      rw [hl2] at e
                      rw [← e]
                      exact ⟨hv_ge q2' _, q3' a⟩
                    have hpb := fun k => parF_bd (x := x) (fun c hc => (codeSz_all (hmem.out c hc)).1) k
                    have hpb := Lib.hid hpb
                    have HS2 := Lib.hid kS2.lenEq
                    clear hzz
                    by_cases hup : k2 + 1 < n0
                    rotate_left
                    · have hnone : fs[k2 + 1]? = none := List.getElem?_eq_none (by have := HL0.out; omega)
                      have hvk3 := hvk2.out
                      rw [hnone, HS3.out] at hvk3
                      have hvk4 := Lib.hid (show vfB x fs k2 = decide ((n3 : Int) = hh0) from hvk3)
                      clear hnone hvk3
                      by_cases eh : (n3 : Int) = hh0
                      · have hs := Lib.hid (all_range_succ hal.out (show vfB x fs k2 = true by rw [hvk4.out]; simpa using eh))
                        have eb : ((n3 : Int) != hh0) = false := by simpa using eh
                        replace eh := Lib.hid eh
                        go_wp2_with fail
                        go_quiet (fail)
                        go_wp2_with fail
                        go_roundw
                        case rel => exact ⟨k2 + 1, by omega, by go_num, hs.out, by (repeat (first | with_reducible exact Below.refl _ _ | with_reducible assumption | with_reducible refine below_alloc ?_ _ | ((with_reducible refine Below.setCell ?_ ?_ _); rotate_left; (· first | exact Nat.le_refl _ | (simp; done) | (simp; omega))) | with_reducible refine below_drewN ?_ _ | with_reducible refine Below.drew ?_ | with_reducible refine below_then ?_ (by with_reducible assumption)))⟩
                        case measure => simp [intOf]; omega
                      · have hn := Lib.hid (show vmB x fs tr x2 x3 x4 x5 = false by rw [hvm.out]; exact all_false (p := vfB x fs) (k := k2) (by rw [List.length_range]; exact hle2.out k2 hlt) (by rw [List.getElem_range, hvk4.out]; simpa using eh))
                        have eb : ((n3 : Int) != hh0) = true := by simpa using eh
                        replace eh := Lib.hid eh
                        go_wp2_with fail
                        go_quiet (fail)
                        go_wp2_with fail
                        go_ret
                        exact RetB.mk hn.out.symm (by (repeat (first | with_reducible exact Below.refl _ _ | with_reducible assumption | with_reducible refine below_alloc ?_ _ | ((with_reducible refine Below.setCell ?_ ?_ _); rotate_left; (· first | exact Nat.le_refl _ | (simp; done) | (simp; omega))) | with_reducible refine below_drewN ?_ _ | with_reducible refine Below.drew ?_ | with_reducible refine below_then ?_ (by with_reducible assumption))))
                    go_wp2_with fail
                    go_quiet (fail)
                    go_upto_region 18 with fail
                    obtain ⟨V, hV⟩ : ∃ V, V = wc.drewN nq := ⟨_, rfl⟩
                    have hbV : Below wc.heap.size wc V := by rw [hV]; exact below_drewN (Below.refl _ _) _
                    rw [← hV]
                    clear hV
                    have hbwV : Below w.heap.size w V := hbwe.trans (hbV.mono (by have := hbwe.size; omega))
                    have hbRV : Below W.heap.size W V := hbRe.trans (hbV.mono hbRe.size)
                    have hbUV : Below U.heap.size U V := hbe.trans (hbV.mono hbe.size)
                    have hboV : Below wo.heap.size wo V := hbo.trans (hbV.mono hbo.size)
                    have hbwVz := hbwV.size
                    obtain ⟨b', o', ya0, ya1, ya2, B3, na3, ca3, sa3, B4, na4, ca4, sa4, B5, na5, ca5, sa5, ya6, ya7, ya8, ya9, ya10, he, _, hbF', hla, ja0, ja1, ja2, hSa3, hSa4, hSa5, ja6, ja7, ja8, ja9, ea0, ea1, ea2, ea3, ea4, ea5, ea6, ea7, ea8, ea9, ea10⟩ := Frame_at (h0.below hbwV hh) hup
                    cases he
                    have hsome : fs[k2 + 1]? = some (ya0, ya1, ya2, sa3, sa4, sa5, ya6, ya7, ya8, ya9, ya10) := by rw [List.getElem?_eq_getElem (hle2.out _ hup), hla]
                    have hvk3 := hvk2.out
                    rw [hsome, HS3.out] at hvk3
                    clear hsome hla
                    obtain ⟨q0, q1, q2, q3, q4, q5, q6⟩ := hS.out V hbRV
                    obtain ⟨f0, f1, f2, f3⟩ := hT.out V hbUV
                    replace v2 := below_cell hbV v2
                    replace v3 := below_cell hbV v3
                    replace r0 := below_cell hbV r0
                    replace r1 := below_cell hbV r1
                    have hX0 : V.cell? ⟨w.heap.size, 0, none⟩ = some (.slice (some ⟨bc, oc, none⟩) n c) ∧ V.cell? ⟨wr.heap.size, 1, none⟩ = some (.int .i64 j) ∧ V.cell? ⟨wr.heap.size, 2, none⟩ = some (.int .i64 a) ∧ V.cell? ⟨bc, oc + j * 5 + 3, none⟩ = some (.slice (some ⟨bi, oi, none⟩) n6 d3) ∧ V.cell? ⟨bi, oi + a * 2, none⟩ = some (.int .i64 op) ∧ V.cell? ⟨bi, oi + a * 2 + 1, none⟩ = some (.int .i64 nn) ∧ V.cell? ⟨w.heap.size + 1, 0, none⟩ = some (.slice (some ⟨b, o, none⟩) n0 c0) ∧ V.cell? ⟨b, o + (k2 + 1) * 11, none⟩ = some (.int .i64 ya0) ∧ V.cell? ⟨b, o + (k2 + 1) * 11 + 1, none⟩ = some (.int .i64 ya1) ∧ V.cell? ⟨b, o + (k2 + 1) * 11 + 2, none⟩ = some (.int .i64 ya2) ∧ V.cell? ⟨b, o + (k2 + 1) * 11 + 3, none⟩ = some (.slice B3 na3 ca3) ∧ V.cell? ⟨b, o + (k2 + 1) * 11 + 4, none⟩ = some (.slice B4 na4 ca4) ∧ V.cell? ⟨b, o + (k2 + 1) * 11 + 5, none⟩ = some (.slice B5 na5 ca5) ∧ V.cell? ⟨b, o + (k2 + 1) * 11 + 6, none⟩ = some (.int .i64 ya6) ∧ V.cell? ⟨b, o + (k2 + 1) * 11 + 7, none⟩ = some (.int .i64 ya7) ∧ V.cell? ⟨b, o + (k2 + 1) * 11 + 8, none⟩ = some (.int .i64 ya8) ∧ V.cell? ⟨b, o + (k2 + 1) * 11 + 9, none⟩ = some (.int .i64 ya9) ∧ V.cell? ⟨b, o + (k2 + 1) * 11 + 10, none⟩ = some (.bool ya10) := ⟨q0, f0, f1, v3, r0, r1, q1, ea0, ea1, ea2, ea3, ea4, ea5, ea6, ea7, ea8, ea9, ea10⟩
                    have hX := Lib.hid (show ∀ V', Below V.heap.size V V' → V'.cell? ⟨w.heap.size, 0, none⟩ = some (.slice (some ⟨bc, oc, none⟩) n c) ∧ V'.cell? ⟨wr.heap.size, 1, none⟩ = some (.int .i64 j) ∧ V'.cell? ⟨wr.heap.size, 2, none⟩ = some (.int .i64 a) ∧ V'.cell? ⟨bc, oc + j * 5 + 3, none⟩ = some (.slice (some ⟨bi, oi, none⟩) n6 d3) ∧ V'.cell? ⟨bi, oi + a * 2, none⟩ = some (.int .i64 op) ∧ V'.cell? ⟨bi, oi + a * 2 + 1, none⟩ = some (.int .i64 nn) ∧ V'.cell? ⟨w.heap.size + 1, 0, none⟩ = some (.slice (some ⟨b, o, none⟩) n0 c0) ∧ V'.cell? ⟨b, o + (k2 + 1) * 11, none⟩ = some (.int .i64 ya0) ∧ V'.cell? ⟨b, o + (k2 + 1) * 11 + 1, none⟩ = some (.int .i64 ya1) ∧ V'.cell? ⟨b, o + (k2 + 1) * 11 + 2, none⟩ = some (.int .i64 ya2) ∧ V'.cell? ⟨b, o + (k2 + 1) * 11 + 3, none⟩ = some (.slice B3 na3 ca3) ∧ V'.cell? ⟨b, o + (k2 + 1) * 11 + 4, none⟩ = some (.slice B4 na4 ca4) ∧ V'.cell? ⟨b, o + (k2 + 1) * 11 + 5, none⟩ = some (.slice B5 na5 ca5) ∧ V'.cell? ⟨b, o + (k2 + 1) * 11 + 6, none⟩ = some (.int .i64 ya6) ∧ V'.cell? ⟨b, o + (k2 + 1) * 11 + 7, none⟩ = some (.int .i64 ya7) ∧ V'.cell? ⟨b, o + (k2 + 1) * 11 + 8, none⟩ = some (.int .i64 ya8) ∧ V'.cell? ⟨b, o + (k2 + 1) * 11 + 9, none⟩ = some (.int .i64 ya9) ∧ V'.cell? ⟨b, o + (k2 + 1) * 11 + 10, none⟩ = some (.bool ya10) from (fun V' hV' => by
                      obtain ⟨sc0, sc1, sc2, sc3, sc4, sc5, sc6, sc7, sc8, sc9, sc10, sc11, sc12, sc13, sc14, sc15, sc16, sc17⟩ := hX0
                      exact ⟨below_cell hV' sc0, below_cell hV' sc1, below_cell hV' sc2, below_cell hV' sc3, below_cell hV' sc4, below_cell hV' sc5, below_cell hV' sc6, below_cell hV' sc7, below_cell hV' sc8, below_cell hV' sc9, below_cell hV' sc10, below_cell hV' sc11, below_cell hV' sc12, below_cell hV' sc13, below_cell hV' sc14, below_cell hV' sc15, below_cell hV' sc16, below_cell hV' sc17⟩))
                    clear hX0
                    go_cut [10, 11] (fun s10 s11 wx => ∃ g1 g2 : Nat, s10 = .pointer (some ⟨g1, 0, none⟩) ∧ s11 = .pointer (some ⟨g2, 0, none⟩) ∧ wx.cell? ⟨g1, 0, none⟩ = some (.int .i64 op) ∧ wx.cell? ⟨g1, 1, none⟩ = some (.int .i64 nn) ∧ wx.cell? ⟨g2, 1, none⟩ = some (.int .i64 ya1) ∧ wx.cell? ⟨g2, 10, none⟩ = some (.bool ya10) ∧ Below V.heap.size V wx)
                    case first =>
                      as_aux_lemma =>
                        have hupI : (k2 : Int) + 1 < (n0 : Int) := by omega
                        have hup0 : (0 : Int) ≤ (k2 : Int) + 1 := by omega
                        have hwk : IntKind.i64.wrap ((k2 : Int) + 1) = (k2 : Int) + 1 := IntWalk.i64_in _ (by omega)
                        clear f2 f3 q2 q3 q4 q5 q6 v2
                        go_region_held3 (fun V' => V'.cell? ⟨w.heap.size, 0, none⟩ = some (.slice (some ⟨bc, oc, none⟩) n c) ∧ V'.cell? ⟨wr.heap.size, 1, none⟩ = some (.int .i64 j) ∧ V'.cell? ⟨wr.heap.size, 2, none⟩ = some (.int .i64 a) ∧ V'.cell? ⟨bc, oc + j * 5 + 3, none⟩ = some (.slice (some ⟨bi, oi, none⟩) n6 d3) ∧ V'.cell? ⟨bi, oi + a * 2, none⟩ = some (.int .i64 op) ∧ V'.cell? ⟨bi, oi + a * 2 + 1, none⟩ = some (.int .i64 nn) ∧ V'.cell? ⟨w.heap.size + 1, 0, none⟩ = some (.slice (some ⟨b, o, none⟩) n0 c0) ∧ V'.cell? ⟨b, o + (k2 + 1) * 11, none⟩ = some (.int .i64 ya0) ∧ V'.cell? ⟨b, o + (k2 + 1) * 11 + 1, none⟩ = some (.int .i64 ya1) ∧ V'.cell? ⟨b, o + (k2 + 1) * 11 + 2, none⟩ = some (.int .i64 ya2) ∧ V'.cell? ⟨b, o + (k2 + 1) * 11 + 3, none⟩ = some (.slice B3 na3 ca3) ∧ V'.cell? ⟨b, o + (k2 + 1) * 11 + 4, none⟩ = some (.slice B4 na4 ca4) ∧ V'.cell? ⟨b, o + (k2 + 1) * 11 + 5, none⟩ = some (.slice B5 na5 ca5) ∧ V'.cell? ⟨b, o + (k2 + 1) * 11 + 6, none⟩ = some (.int .i64 ya6) ∧ V'.cell? ⟨b, o + (k2 + 1) * 11 + 7, none⟩ = some (.int .i64 ya7) ∧ V'.cell? ⟨b, o + (k2 + 1) * 11 + 8, none⟩ = some (.int .i64 ya8) ∧ V'.cell? ⟨b, o + (k2 + 1) * 11 + 9, none⟩ = some (.int .i64 ya9) ∧ V'.cell? ⟨b, o + (k2 + 1) * 11 + 10, none⟩ = some (.bool ya10)) (first | exact ⟨q0, f0, f1, v3, r0, r1, q1, ea0, ea1, ea2, ea3, ea4, ea5, ea6, ea7, ea8, ea9, ea10⟩ | exact hX.out _ (show Below V.heap.size V _ by (repeat (first | with_reducible exact Below.refl _ _ | with_reducible assumption | with_reducible refine below_alloc ?_ _ | ((with_reducible refine Below.setCell ?_ ?_ _); rotate_left; (· first | exact Nat.le_refl _ | omega | (simp; done) | (simp; omega))) | with_reducible refine below_drewN ?_ _ | with_reducible refine Below.drew ?_ | with_reducible refine below_then ?_ (by with_reducible assumption))))) (fail)
                        all_goals
                          go_wp2_with fail
                          go_meet
                          case rel => exact ⟨_, _, rfl, rfl, by simp [go_sem], by simp [go_sem], by simp [go_sem], by simp [go_sem], by (repeat (first | with_reducible exact Below.refl _ _ | with_reducible assumption | with_reducible refine below_alloc ?_ _ | ((with_reducible refine Below.setCell ?_ ?_ _); rotate_left; (· first | exact Nat.le_refl _ | omega | (simp; done) | (simp; omega))) | with_reducible refine below_drewN ?_ _ | with_reducible refine Below.drew ?_ | with_reducible refine below_then ?_ (by with_reducible assumption)))⟩
                    case rest =>
                      as_aux_lemma =>
                        obtain ⟨g1, g2, rfl, rfl, c10, c11, c21, c2x, hbg⟩ := hcut
                        have hboc0 : Below wo.heap.size wo wc := hboV.trans (hbg.mono hboV.size)
                        have hbwc0 : Below w.heap.size w wc := hbwV.trans (hbg.mono hbwVz)
                        obtain ⟨sc0, sc1, sc2, sc3, sc4, sc5, sc6, sc7, sc8, sc9, sc10, sc11, sc12, sc13, sc14, sc15, sc16, sc17⟩ := hX.out wc hbg
                        replace v2 := below_cell hbg v2
                        obtain ⟨f0, f1, f2, f3⟩ := hT.out wc (hbUV.trans (hbg.mono hbUV.size))
                        obtain ⟨a7, E7⟩ : ∃ r, (op == 7) = r := ⟨_, rfl⟩
                        obtain ⟨am, EM⟩ : ∃ r, (nn == ya1) = r := ⟨_, rfl⟩
                        obtain ⟨a17, E17⟩ : ∃ r, (op == 17) = r := ⟨_, rfl⟩
                        obtain ⟨as_, ES⟩ : ∃ r, (t2.getD nn.toNat 0 == ya1) = r := ⟨_, rfl⟩
                        have E17' : (op != 17) = !a17 := by rw [← E17]; rfl
                        rw [linkB_some (g := (ya0, ya1, ya2, sa3, sa4, sa5, ya6, ya7, ya8, ya9, ya10)) (of_ := ya10) E7 rfl EM E17 ES, Bool.true_and] at hvk3
                        obtain ⟨q, Q⟩ : ∃ q, (a7 && !ya10 && am) = q := ⟨_, rfl⟩
                        obtain ⟨r, R⟩ : ∃ r, (a17 && ya10 && as_) = r := ⟨_, rfl⟩
                        rw [Q, R] at hvk3
                        have hvk5 := Lib.hid hvk3
                        replace Q := Lib.hid Q
                        replace R := Lib.hid R
                        clear hvk3 q0 q1 q2 q3 q4 q5 q6 ea0 ea1 ea2 ea3 ea4 ea5 ea6 ea7 ea8 ea9 ea10
                        have ES' := Lib.hid ES
                        have E7' := Lib.hid E7
                        have E17h := Lib.hid E17
                        clear ES
                        go_upto_region 19 with fail
                        go_cut [137] (fun s wx => s = .bool q ∧ wx = wc)
                        case first =>
                          as_aux_lemma =>
                            clear E17 E17'
                            cases a7 <;> cases ya10 <;> cases am
                            all_goals
                              go_wp2_with fail
                              go_meet
                              case rel => exact ⟨by rw [← Q.out]; rfl, rfl⟩
                        case rest =>
                          as_aux_lemma =>
                            obtain ⟨rfl, hw⟩ := hcut
                            subst hw
                            cases q
                            · clear E7 EM
                              go_upto_region 21 with fail
                              go_cut [162] (fun s wx => s = .bool (!r) ∧ Below wc.heap.size wc wx)
                              case first =>
                                as_aux_lemma =>
                                  cases a17
                                  · clear E17
                                    cases ya10 <;> cases as_
                                    all_goals
                                      go_wp2_with fail
                                      go_quiet (fail)
                                      go_wp2_with fail
                                      go_meet
                                      case rel => exact ⟨by rw [← R.out]; rfl, by (repeat (first | with_reducible exact Below.refl _ _ | with_reducible assumption | with_reducible refine below_alloc ?_ _ | ((with_reducible refine Below.setCell ?_ ?_ _); rotate_left; (· first | exact Nat.le_refl _ | (simp; done) | (simp; omega))) | with_reducible refine below_drewN ?_ _ | with_reducible refine Below.drew ?_ | with_reducible refine below_then ?_ (by with_reducible assumption)))⟩
                                  · clear E17
                                    cases ya10
                                    · cases as_
                                      all_goals
                                        go_wp2_with fail
                                        go_quiet (fail)
                                        go_wp2_with fail
                                        go_meet
                                        case rel => exact ⟨by rw [← R.out]; rfl, by (repeat (first | with_reducible exact Below.refl _ _ | with_reducible assumption | with_reducible refine below_alloc ?_ _ | ((with_reducible refine Below.setCell ?_ ?_ _); rotate_left; (· first | exact Nat.le_refl _ | (simp; done) | (simp; omega))) | with_reducible refine below_drewN ?_ _ | with_reducible refine Below.drew ?_ | with_reducible refine below_then ?_ (by with_reducible assumption)))⟩
                                    · have hr17 := h17.out (by have := E17h.out; simpa using this)
                                      obtain ⟨s, hs0⟩ := Int.eq_ofNat_of_zero_le hr17.1
                                      subst hs0
                                      have hs2 : s < m2 := by have := HS2.out; have := hr17.2; omega
                                      obtain ⟨b2, o2, hA2, _, _, c2s, _⟩ := (kS2.below (hbV.trans (hbg.mono hbV.size)) (by have := hbwe.size; omega)).int_at hs2
                                      rw [hA2] at v2
                                      have ES2 : (t2[s]'(by have := HS2.out; omega) != ya1) = !as_ := by rw [← ES'.out]; simp [List.getD, show s < t2.length by have := HS2.out; omega]; rfl
                                      have hsI : (s : Int) < (m2 : Int) := by omega
                                      cases as_
                                      all_goals
                                        go_wp2_with fail
                                        go_quiet (fail)
                                        go_wp2_with fail
                                        go_meet
                                        case rel => exact ⟨by rw [← R.out]; rfl, by (repeat (first | with_reducible exact Below.refl _ _ | with_reducible assumption | with_reducible refine below_alloc ?_ _ | ((with_reducible refine Below.setCell ?_ ?_ _); rotate_left; (· first | exact Nat.le_refl _ | (simp; done) | (simp; omega))) | with_reducible refine below_drewN ?_ _ | with_reducible refine Below.drew ?_ | with_reducible refine below_then ?_ (by with_reducible assumption)))⟩
                              case rest =>
                                as_aux_lemma =>
                                  obtain ⟨rfl, hbk⟩ := hcut
                                  have hboc := hboc0.trans (hbk.mono hboc0.size)
                                  have hbwc := hbwc0.trans (hbk.mono hbwc0.size)
                                  obtain ⟨f0, f1, f2, f3⟩ := hT.out wc (hbUV.trans ((hbg.trans (hbk.mono hbg.size)).mono hbUV.size))
                                  cases r
                                  · have hn := Lib.hid (show vmB x fs tr x2 x3 x4 x5 = false by rw [hvm.out]; exact all_false (p := vfB x fs) (k := k2) (by rw [List.length_range]; exact hle2.out k2 hlt) (by rw [List.getElem_range, hvk5.out]; rfl))
                                    go_wp2_with fail
                                    go_ret
                                    exact RetB.mk hn.out.symm hbwc
                                  · have hvk6 := Lib.hid (show vfB x fs k2 = decide ((n3 : Int) = hh0) from hvk5.out)
                                    by_cases eh : (n3 : Int) = hh0
                                    · have hs := Lib.hid (all_range_succ hal.out (show vfB x fs k2 = true by rw [hvk6.out]; simpa using eh))
                                      have eb : ((n3 : Int) != hh0) = false := by simpa using eh
                                      replace eh := Lib.hid eh
                                      go_wp2_with fail
                                      go_roundw
                                      case rel => exact ⟨k2 + 1, by omega, by go_num, hs.out, hboc⟩
                                      case measure => simp [intOf]; omega
                                    · have hn := Lib.hid (show vmB x fs tr x2 x3 x4 x5 = false by rw [hvm.out]; exact all_false (p := vfB x fs) (k := k2) (by rw [List.length_range]; exact hle2.out k2 hlt) (by rw [List.getElem_range, hvk6.out]; simpa using eh))
                                      have eb : ((n3 : Int) != hh0) = true := by simpa using eh
                                      replace eh := Lib.hid eh
                                      go_wp2_with fail
                                      go_ret
                                      exact RetB.mk hn.out.symm hbwc
                            · have hr7 := h7.out (by
                                have h1 := Q.out
                                simp only [Bool.and_eq_true] at h1
                                have h2 := E7'.out
                                rw [h1.1.1] at h2
                                simpa using h2)
                              obtain ⟨s, hs0⟩ := Int.eq_ofNat_of_zero_le hr7.1
                              subst hs0
                              have hsn : s < n := by have := HL.out; have := hr7.2; omega
                              obtain ⟨bd, od, zz0, zz1, Dd2, md2, dd2, td2, Dd3, md3, dd3, td3, Dd4, md4, dd4, td4, hed, _, _, hld, _, _, _, _, _, vd0, _, _, _, _⟩ := Code_at (h.below hbwc0 hh) hsn
                              cases hed
                              have hpar := parF_at (x := x) (k := s) (by have := HL.out; omega) hld
                              simp only at hpar
                              have hpb1 := hpb.out (s : Int)
                              rw [hpar] at hpb1
                              have hqp : IntKind.i64.wrap (hh0 - zz0) = hh0 - zz0 := IntWalk.i64_in _ (by omega)
                              have hvk6 := Lib.hid (show vfB x fs k2 = decide ((n3 : Int) = hh0 - zz0) from by rw [hvk5.out, hpar]; rfl)
                              have hsI : (s : Int) < (n : Int) := by omega
                              have hboc := hboc0
                              have hbwc := hbwc0
                              clear hld hpar E7 EM E17 E17'
                              by_cases eh : (n3 : Int) = hh0 - zz0
                              · have hs := Lib.hid (all_range_succ hal.out (show vfB x fs k2 = true by rw [hvk6.out]; simpa using eh))
                                have eb : ((n3 : Int) != hh0 - zz0) = false := by simpa using eh
                                replace eh := Lib.hid eh
                                go_wp2_with fail
                                go_roundw
                                case rel => exact ⟨k2 + 1, by omega, by go_num, hs.out, hboc⟩
                                case measure => simp [intOf]; omega
                              · have hn := Lib.hid (show vmB x fs tr x2 x3 x4 x5 = false by rw [hvm.out]; exact all_false (p := vfB x fs) (k := k2) (by rw [List.length_range]; exact hle2.out k2 hlt) (by rw [List.getElem_range, hvk6.out]; simpa using eh))
                                have eb : ((n3 : Int) != hh0 - zz0) = true := by simpa using eh
                                replace eh := Lib.hid eh
                                go_wp2_with fail
                                go_ret
                                exact RetB.mk hn.out.symm hbwc
end Go.Proofs.YtmnkgcjbckamnaaGreat
