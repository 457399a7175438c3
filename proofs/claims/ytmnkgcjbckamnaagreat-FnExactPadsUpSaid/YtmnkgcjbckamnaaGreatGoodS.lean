/- Whether a machine is good: the reference's walks. -/
import Derived.Test.YtmnkgcjbckamnaaGreatGoodVP
import Derived.Deep.DeepCutAuto
import Derived.Deep.RegionHeld3
import Derived.Deep.QuietTactic
import Derived.BigQuiet
import Derived.BigGuardPart
set_option linter.unusedVariables false
set_option linter.unusedSimpArgs false
set_option maxRecDepth 100000
namespace Go.Proofs.YtmnkgcjbckamnaaGreat
open Go.RowKit
attribute [local irreducible] wpList
theorem specL2Bound2 (w : World) (n : Int) : Calls Tryz.prog 163 #[.int .i64 n] w (fun e w' => e = .returned (.bool (small n)) ∧ w' = w) := by
  go_enter Tryz.func163, Tryz.ntmps163
  go_wp2_with (go_at_call 42; refine (specL1In _ _ _ _).mono ?_; rintro e w2 ⟨rfl, rfl⟩)
  go_ret
  exact ⟨rfl, rfl⟩
theorem specL1Least (w : World) (a b : Int) : Calls Tryz.prog 165 #[.int .i64 a, .int .i64 b] w (fun e w' => e = .returned (.int .i64 (min a b)) ∧ w' = w) := by
  go_enter Tryz.func165, Tryz.ntmps165
  go_wp2
  all_goals
    go_ret
    exact ⟨ret_int (by omega), rfl⟩
set_option maxHeartbeats 16000000 in
theorem specL8FrameGood (w : World) (lo hi : Nat) (A : Option Addr) (n c : Nat) (x : List Code) (x0 x1 x2 : Int) (A3 : Option Addr) (n3 c3 : Nat) (s3 : List Int) (A4 : Option Addr) (n4 c4 : Nat) (s4 : List Int) (A5 : Option Addr) (n5 c5 : Nat) (s5 : List Bool) (x6 x7 x8 x9 : Int) (y10 : Bool)
    (g0 g1 g2 : Int) (gv3 gv4 gv5 : Value) (g6 g7 g8 g9 : Int) (g10 last : Bool) (G : Frame) (hG1 : G.2.1 = g1) (hG2 : frOff G = g10)
    (h : Sl CodeR w lo hi A n c x) (h3 : Sl intR w lo hi A3 n3 c3 s3) (h4 : Sl intR w lo hi A4 n4 c4 s4) (h5 : Sl boolR w lo hi A5 n5 c5 s5) (hh : hi ≤ w.heap.size) (hg : goodI x = true) :
    Calls Tryz.prog 164 #[.agg #[.slice A n c], .agg #[.int .i64 x0, .int .i64 x1, .int .i64 x2, .slice A3 n3 c3, .slice A4 n4 c4, .slice A5 n5 c5, .int .i64 x6, .int .i64 x7, .int .i64 x8, .int .i64 x9, .bool y10], .agg #[.int .i64 g0, .int .i64 g1, .int .i64 g2, gv3, gv4, gv5, .int .i64 g6, .int .i64 g7, .int .i64 g8, .int .i64 g9, .bool g10], .bool last] w
      (RetB (frB x (x0, x1, x2, s3, s4, s5, x6, x7, x8, x9, y10) && linkB x (codeD x x1).2.2.1 (insAt (codeD x x1).2.2.2.1 x2) (hv (checkH x (codeD x x1)) x2) (s3.length : Int) (if last = true then none else some G)) w) := by
  have HL := Lib.hid h.lenEq
  have hg0 := goodI_iff.1 hg
  have hlen := sizedB_len hg0.1
  rw [HL.out] at hlen
  have hmem := Lib.hid (sizedB_mem hg0.1)
  have hcod := Lib.hid hg0.2.2
  have hp2 := Lib.hid (fun c (hc : c ∈ x) => (codeSz_all (hmem.out c hc)).1)
  clear hg0 hg
  have qw : IntKind.i64.wrap ((n : Int) - 1) = (n : Int) - 1 := IntWalk.i64_in _ (by omega)
  have hv' : ∀ b : Bool, ∃ c, b = c := fun b => ⟨b, rfl⟩
  obtain ⟨d1, D1⟩ := hv' (inB x1 0 ((n : Int) - 1))
  obtain ⟨d0, D0⟩ := hv' (small x0)
  obtain ⟨d6, D6⟩ := hv' (small x6)
  obtain ⟨d8, D8⟩ := hv' (small x8)
  obtain ⟨d7, D7⟩ := hv' (inB x7 0 3)
  obtain ⟨r1, R1⟩ := hv' (x9 == 1)
  obtain ⟨r3, R3⟩ := hv' (x9 == 3)
  have R1' : (x9 != 1) = !r1 := by rw [← R1]; rfl
  have R3' : (x9 != 3) = !r3 := by rw [← R3]; rfl
  obtain ⟨p, P⟩ := hv' (d1 && d0 && d6 && d8 && d7 && (r1 || r3))
  replace P := Lib.hid P
  obtain ⟨res, hRES⟩ := hv' (frB x (x0, x1, x2, s3, s4, s5, x6, x7, x8, x9, y10) && linkB x (codeD x x1).2.2.1 (insAt (codeD x x1).2.2.2.1 x2) (hv (checkH x (codeD x x1)) x2) (s3.length : Int) (if last = true then none else some G))
  rw [hRES]
  replace hRES := Lib.hid hRES
  have FE := Lib.hid (show frB x (x0, x1, x2, s3, s4, s5, x6, x7, x8, x9, y10) = (p && (inB x2 0 (((codeD x x1).2.2.2.1.length : Int) - 1) && decide ((s4.length : Int) = (codeD x x1).2.1) && decide ((s5.length : Int) = ((codeD x x1).2.2.1.length : Int)) && s4.all small && s3.all small)) by
    rw [← P.out, ← R1, ← R3, ← D1, ← D0, ← D6, ← D8, ← D7]
    unfold frB fldB
    rw [HL.out]
    simp only [show (x9 == 1) = decide (x9 = 1) from rfl, show (x9 == 3) = decide (x9 = 3) from rfl]
    cases inB x1 0 ((n : Int) - 1) <;> cases small x0 <;> cases small x6 <;> cases small x8 <;> cases inB x7 0 3 <;> simp [Bool.and_comm, Bool.and_left_comm, Bool.and_assoc])
  have D1h := Lib.hid D1
  replace D1 := Lib.hid D1
  replace D0 := Lib.hid D0
  replace D6 := Lib.hid D6
  replace D8 := Lib.hid D8
  replace D7 := Lib.hid D7
  clear hv' R1 R3
  go_enter Tryz.func164, Tryz.ntmps164
  go_upto_region 1 with fail
  obtain ⟨W, hW⟩ : ∃ W, W = ((w.alloc (.cells #[.slice A n c] 35)).alloc (.cells #[.int .i64 x0, .int .i64 x1, .int .i64 x2, .slice A3 n3 c3, .slice A4 n4 c4, .slice A5 n5 c5, .int .i64 x6, .int .i64 x7, .int .i64 x8, .int .i64 x9, .bool y10] 95)).alloc (.cells #[.int .i64 g0, .int .i64 g1, .int .i64 g2, gv3, gv4, gv5, .int .i64 g6, .int .i64 g7, .int .i64 g8, .int .i64 g9, .bool g10] 95) := ⟨_, rfl⟩
  have hbW : Below w.heap.size w W := by rw [hW]; (repeat (first | with_reducible exact Below.refl _ _ | with_reducible assumption | with_reducible refine below_alloc ?_ _ | ((with_reducible refine Below.setCell ?_ ?_ _); rotate_left; (· first | exact Nat.le_refl _ | (simp; done) | (simp; omega))) | with_reducible refine below_drewN ?_ _ | with_reducible refine Below.drew ?_ | with_reducible refine below_then ?_ (by with_reducible assumption)))
  have hzW : w.heap.size + 3 ≤ W.heap.size := by rw [hW]; simp
  have hS := Lib.hid (show ∀ V, Below W.heap.size W V → V.cell? ⟨w.heap.size, 0, none⟩ = some (.slice A n c) ∧ V.cell? ⟨w.heap.size + 1, 0, none⟩ = some (.int .i64 x0) ∧ V.cell? ⟨w.heap.size + 1, 1, none⟩ = some (.int .i64 x1) ∧ V.cell? ⟨w.heap.size + 1, 2, none⟩ = some (.int .i64 x2) ∧ V.cell? ⟨w.heap.size + 1, 3, none⟩ = some (.slice A3 n3 c3) ∧ V.cell? ⟨w.heap.size + 1, 4, none⟩ = some (.slice A4 n4 c4) ∧ V.cell? ⟨w.heap.size + 1, 5, none⟩ = some (.slice A5 n5 c5) ∧ V.cell? ⟨w.heap.size + 1, 6, none⟩ = some (.int .i64 x6) ∧ V.cell? ⟨w.heap.size + 1, 7, none⟩ = some (.int .i64 x7) ∧ V.cell? ⟨w.heap.size + 1, 8, none⟩ = some (.int .i64 x8) ∧ V.cell? ⟨w.heap.size + 1, 9, none⟩ = some (.int .i64 x9) ∧ V.cell? ⟨w.heap.size + 1 + 1, 1, none⟩ = some (.int .i64 g1) ∧ V.cell? ⟨w.heap.size + 1 + 1, 10, none⟩ = some (.bool g10) from (fun V hV => by refine ⟨below_cell hV ?_, below_cell hV ?_, below_cell hV ?_, below_cell hV ?_, below_cell hV ?_, below_cell hV ?_, below_cell hV ?_, below_cell hV ?_, below_cell hV ?_, below_cell hV ?_, below_cell hV ?_, below_cell hV ?_, below_cell hV ?_⟩ <;> (rw [hW]; simp [go_sem])))
  rw [← hW]
  clear hW
  go_cut [56] (fun s wx => s = .bool (!p) ∧ wx = W)
  case first =>
    obtain ⟨q0, q1, q2, q3, q4, q5, q6, q7, q8, q9, q10, q11, q12⟩ := hS.out W (Below.refl _ _)
    go_wp2_with (first
      | (go_at_call 163; ((with_reducible refine (specL2Bound2 _ x0).mono ?_); rintro e w3 ⟨rfl, rfl⟩; rw [D0.out]; cases d0))
      | (go_at_call 163; ((with_reducible refine (specL2Bound2 _ x6).mono ?_); rintro e w3 ⟨rfl, rfl⟩; rw [D6.out]; cases d6))
      | (go_at_call 163; ((with_reducible refine (specL2Bound2 _ x8).mono ?_); rintro e w3 ⟨rfl, rfl⟩; rw [D8.out]; cases d8))
      | (go_at_call 42; ((with_reducible refine (specL1In _ x1 _ _).mono ?_); rintro e w3 ⟨rfl, rfl⟩; rw [D1.out]; cases d1))
      | (go_at_call 42; ((with_reducible refine (specL1In _ x7 _ _).mono ?_); rintro e w3 ⟨rfl, rfl⟩; rw [D7.out]; cases d7 <;> cases r1 <;> cases r3)))
    all_goals
      go_meet
      case rel => exact ⟨by rw [← P.out]; first | rfl | simp, rfl⟩
  case rest =>
    obtain ⟨rfl, hw⟩ := hcut
    obtain ⟨wc0, hw0⟩ : ∃ wc0, wc0 = wc := ⟨_, rfl⟩
    rw [← hw0] at hw ⊢
    clear hw0
    subst hw
    cases p
    · have hn := Lib.hid (FE.out.trans (Bool.false_and _))
      go_wp2_with fail
      go_ret
      exact RetB.mk (by rw [← hRES.out, hn.out]; rfl) hbW
    have hd1 : inB x1 0 ((n : Int) - 1) = true := by
      have := P.out
      simp only [Bool.and_eq_true] at this
      rw [D1h.out]; exact this.1.1.1.1.1
    have hbd := inB_iff.1 hd1
    obtain ⟨j, rfl⟩ := Int.eq_ofNat_of_zero_le hbd.1
    have hj : j < n := by omega
    have hjx : j < x.length := by have := HL.out; omega
    obtain ⟨bc, oc, z0, z1, D2, m2, d2, t2, D3, m3, d3, t3, D4, m4, d4, t4, rfl, _, hbb, hlc, _, _, kS2, kS3, kS4, v0, v1, v2, v3, v4⟩ := Code_at (h.below hbW hh) hj
    have hcd : codeD x (j : Int) = (z0, z1, t2, t3, t4) := by rw [codeD_at hjx, hlc]
    have FE0 := FE.out
    rw [hcd] at FE0
    simp only at FE0
    have HCD := Lib.hid hcd
    have hc0 := hcod.out _ (List.getElem_mem hjx)
    have hzc := codeSz_all (hmem.out _ (List.getElem_mem hjx))
    rw [hlc] at hc0 hzc
    have hln := checkH_len hc0
    have hall := codeF_0 hc0
    simp only at hln hzc hall
    have L3 := kS3.lenEq
    obtain ⟨bi, oi, rfl⟩ : ∃ bi oi, D3 = some ⟨bi, oi, none⟩ := by
      obtain ⟨bi, oi, _, _, e, _⟩ := Ins_at kS3 (k := 0) (by omega)
      exact ⟨bi, oi, e⟩
    have HK := Lib.hid (⟨L3, kS2.lenEq, h3.lenEq, h4.lenEq, h5.lenEq⟩ : t3.length = m3 ∧ t2.length = m2 ∧ s3.length = n3 ∧ s4.length = n4 ∧ s5.length = n5)
    have hm3 : 1 ≤ m3 ∧ m3 ≤ 300 := by omega
    have hv' : ∀ b : Bool, ∃ c, b = c := fun b => ⟨b, rfl⟩
    obtain ⟨e2, E2⟩ := hv' (inB x2 0 ((m3 : Int) - 1))
    obtain ⟨b4, B4⟩ := hv' (s4.all small)
    obtain ⟨b3, B3⟩ := hv' (s3.all small)
    obtain ⟨ev, EV⟩ := hv' ((n4 : Int) == z1)
    obtain ⟨ef, EF⟩ := hv' ((n5 : Int) == (m2 : Int))
    have EV' : ((n4 : Int) != z1) = !ev := by rw [← EV]; rfl
    have EF' : ((n5 : Int) != (m2 : Int)) = !ef := by rw [← EF]; rfl
    obtain ⟨r, R⟩ := hv' (e2 && ev && ef && b4 && b3)
    have FE2 := Lib.hid (show frB x (x0, (j : Int), x2, s3, s4, s5, x6, x7, x8, x9, y10) = r by
      rw [FE0, HK.out.1, HK.out.2.1, HK.out.2.2.2.1, HK.out.2.2.2.2, ← R, ← E2, ← EV, ← EF, B4, B3, Bool.true_and]; rfl)
    replace R := Lib.hid R
    have E2h := Lib.hid E2
    replace E2 := Lib.hid E2
    replace B4 := Lib.hid B4
    replace B3 := Lib.hid B3
    have qm : IntKind.i64.wrap ((m3 : Int) - 1) = (m3 : Int) - 1 := IntWalk.i64_in _ (by omega)
    have hj' : (j : Int) < (n : Int) := by omega
    clear hv' EV EF L3 FE0
    obtain ⟨q0, q1, q2, q3, q4, q5, q6, q7, q8, q9, q10, q11, q12⟩ := hS.out wc0 (Below.refl _ _)
    have hlc' := Lib.hid hlc
    have hall' := Lib.hid hall
    have hln' := Lib.hid hln
    have hc0' := Lib.hid hc0
    clear hlc hcd hln hall hc0 hd1
    go_upto_region 4 with fail
    obtain ⟨U, hU⟩ : ∃ U, U = wc0.alloc (.cells #[.int .i64 z0, .int .i64 z1, .slice D2 m2 d2, .slice (some ⟨bi, oi, none⟩) m3 d3, .slice D4 m4 d4] 30) := ⟨_, rfl⟩
    have hbU : Below wc0.heap.size wc0 U := by rw [hU]; (repeat (first | with_reducible exact Below.refl _ _ | with_reducible assumption | with_reducible refine below_alloc ?_ _ | ((with_reducible refine Below.setCell ?_ ?_ _); rotate_left; (· first | exact Nat.le_refl _ | (simp; done) | (simp; omega))) | with_reducible refine below_drewN ?_ _ | with_reducible refine Below.drew ?_ | with_reducible refine below_then ?_ (by with_reducible assumption)))
    have hzU : wc0.heap.size + 1 ≤ U.heap.size := by rw [hU]; simp
    have hT := Lib.hid (show ∀ V, Below U.heap.size U V → V.cell? ⟨wc0.heap.size, 0, none⟩ = some (.int .i64 z0) ∧ V.cell? ⟨wc0.heap.size, 1, none⟩ = some (.int .i64 z1) ∧ V.cell? ⟨wc0.heap.size, 2, none⟩ = some (.slice D2 m2 d2) ∧ V.cell? ⟨wc0.heap.size, 3, none⟩ = some (.slice (some ⟨bi, oi, none⟩) m3 d3) ∧ V.cell? ⟨wc0.heap.size, 4, none⟩ = some (.slice D4 m4 d4) from (fun V hV => by refine ⟨below_cell hV ?_, below_cell hV ?_, below_cell hV ?_, below_cell hV ?_, below_cell hV ?_⟩ <;> (rw [hU]; simp [go_sem])))
    rw [← hU]
    clear hU q0 q1 q2 q3 q4 q5 q6 q7 q8 q9 q10 q11 q12 v0 v1 v4
    have hbwU : Below w.heap.size w U := hbW.trans (hbU.mono (by omega))
    go_cut [99] (fun s wx => s = .bool (!r) ∧ Below U.heap.size U wx)
    case first =>
      obtain ⟨q0, q1, q2, q3, q4, q5, q6, q7, q8, q9, q10, q11, q12⟩ := hS.out U hbU
      obtain ⟨t_0, t_1, t_2, t_3, t_4⟩ := hT.out U (Below.refl _ _)
      go_wp2_with (first
        | (go_at_call 42; ((with_reducible refine (specL1In _ x2 _ _).mono ?_); rintro e w3 ⟨rfl, rfl⟩; rw [E2.out]; cases e2 <;> cases ev <;> cases ef))
        | (go_at_call 115; ((with_reducible refine (specL8Bounds _ lo hi n4 c4 A4 s4 (h4.below hbwU hh) (by omega)).mono ?_); rintro e w4 ⟨rfl, hb4⟩; clear q0 q1 q2 q3 q4 q5 q6 q7 q8 q9 q10 q11 q12 t_0 t_1 t_2 t_3 t_4; obtain ⟨q0, q1, q2, q3, q4, q5, q6, q7, q8, q9, q10, q11, q12⟩ := hS.out w4 (hbU.trans (hb4.mono (by omega))); obtain ⟨t_0, t_1, t_2, t_3, t_4⟩ := hT.out w4 hb4; rw [B4.out]; cases b4))
        | (go_at_call 115; ((with_reducible refine (specL8Bounds _ lo hi n3 c3 A3 s3 (h3.below (hbwU.trans (hb4.mono (by omega))) hh) (by have := hb4.size; omega)).mono ?_); rintro e w5 ⟨rfl, hb5⟩; have hb6 := below_then hb4 hb5; rw [B3.out]; cases b3)))
      all_goals
        go_meet
        case rel => exact ⟨by rw [← R.out]; rfl, by (repeat (first | with_reducible exact Below.refl _ _ | with_reducible assumption | with_reducible refine below_alloc ?_ _ | ((with_reducible refine Below.setCell ?_ ?_ _); rotate_left; (· first | exact Nat.le_refl _ | (simp; done) | (simp; omega))) | with_reducible refine below_drewN ?_ _ | with_reducible refine Below.drew ?_ | with_reducible refine below_then ?_ (by with_reducible assumption)))⟩
    case rest =>
      obtain ⟨rfl, hbe⟩ := hcut
      cases r
      · have hn := Lib.hid FE2.out
        go_wp2_with fail
        go_ret
        exact RetB.mk (by rw [← hRES.out, hn.out]; rfl) (hbwU.trans (hbe.mono (by omega)))
      have hr2 : inB x2 0 ((m3 : Int) - 1) = true := by
        have := R.out
        simp only [Bool.and_eq_true] at this
        rw [E2h.out]; exact this.1.1.1.1
      have hb2 := inB_iff.1 hr2
      obtain ⟨a, rfl⟩ := Int.eq_ofNat_of_zero_le hb2.1
      have ha : a < m3 := by omega
      have hat3 : a < t3.length := by have := HK.out.1; omega
      have hbce : Below wc0.heap.size wc0 wc := hbU.trans (hbe.mono (by omega))
      have hbwe : Below w.heap.size w wc := hbwU.trans (hbe.mono (by omega))
      have hwz := hbwe.size
      obtain ⟨bi', oi', op, nn, he, _, hbi, hli, io, inn, r0, r1⟩ := Ins_at (kS3.below hbce (by omega)) ha
      cases he
      obtain ⟨hnm, hgs, hrw, l, hl1, hl2⟩ := hall'.out
      obtain ⟨hq1, hq2, hq3⟩ := heights_ok hl1
      have hl64 := Lib.hid (show ∀ v, v ∈ l → I64 v from fun v hv' => by have := hln'.out.2 v (by rw [hl2]; exact hv'); exact this)
      have hll : l.length = m3 := by have := HK.out.1; omega
      have hla : a < l.length := by omega
      have HLL := Lib.hid hll
      rw [HK.out.1] at hrw
      have h7n := named_7 hnm hzc.2.2.2.2.2
      simp only at h7n
      have h7 := Lib.hid (fun (i : Ins) (hi' : i ∈ t3) (e : i.1 = 7) => show 0 ≤ i.2 ∧ i.2 < (n : Int) by have := h7n i hi' e; have := HL.out; omega)
      have h7o := Lib.hid (fun (e : op = 7) => show 0 ≤ nn ∧ nn < (n : Int) from h7.out (op, nn) (hli ▸ List.getElem_mem hat3) e)
      have h17 := Lib.hid (fun (e : op = 17) => named_17 hnm hzc.2.2.2.2.2 (op, nn) (hli ▸ List.getElem_mem hat3) e)
      have hhv : hv (checkH x (z0, z1, t2, t3, t4)) (a : Int) = l[a]'hla := by rw [hl2, hv_get (by omega)]
      obtain ⟨hh0, HH⟩ : ∃ hh0, l[a]'hla = hh0 := ⟨_, rfl⟩
      have hhb : -1 ≤ hh0 ∧ hh0 ≤ 40 := by
        have e := hq3 a
        rw [hv_get (by omega), HH] at e
        exact ⟨HH ▸ hq2 _ (List.getElem_mem _), e⟩
      have HR := Lib.hid (show res = linkB x t2 (op, nn) hh0 (n3 : Int) (if last = true then none else some G) by
        rw [← hRES.out, FE2.out, Bool.true_and, HCD.out]
        simp only
        rw [ insAt_eq hat3, hli, hhv, HH, HK.out.2.2.1])
      have hpb := Lib.hid (fun k => parF_bd (x := x) hp2.out k)
      have hl1' := Lib.hid hl1
      have hgs' := Lib.hid hgs
      have hrw' := Lib.hid hrw
      have HH' := Lib.hid HH
      have haI : (a : Int) < (m3 : Int) := by omega
      clear hr2 hb2 hhv hl1 hgs hrw HH hnm hl2 hq1 hq2 hq3 h7n hzc hli hll
      obtain ⟨q0, q1, q2, q3, q4, q5, q6, q7, q8, q9, q10, q11, q12⟩ := hS.out wc hbce
      obtain ⟨t_0, t_1, t_2, t_3, t_4⟩ := hT.out wc hbe
      go_wp2_with fail
      refine (specL5Heights _ lo hi (some ⟨bc, oc, none⟩) n c x z0 z1 D2 (some ⟨bi, oi, none⟩) D4 m2 d2 m3 d3 m4 d4 t3 t4 (h.below hbwe hh) (kS3.below hbce (by omega)) (kS4.below hbce (by omega)) (by omega) hm3.1 hm3.2 hp2.out h7.out hgs'.out hrw'.out).mono ?_
      rintro e w7 ⟨A6, n6, c6, rfl, hI, hb7⟩
      rw [hl1'.out] at hI
      simp only [Option.getD_some, hl1'.out, Option.isSome_some] at hI ⊢
      have hS6 := hI.sl hl64.out
      have L6 := hS6.lenEq
      have hn6 : n6 = m3 := by have := HLL.out; omega
      subst hn6
      obtain ⟨b6, o6, rfl, _, hb6l, hcH, _⟩ := hS6.int_at ha
      rw [HH'.out] at hcH
      have hbe7 : Below U.heap.size U w7 := hbe.trans (hb7.mono hbe.size)
      have hbc7 : Below wc0.heap.size wc0 w7 := hbce.trans (hb7.mono hbce.size)
      have hbw7 : Below w.heap.size w w7 := hbwe.trans (hb7.mono hbwe.size)
      replace r0 := below_cell hb7 r0
      replace r1 := below_cell hb7 r1
      clear hI hb7 q0 q1 q2 q3 q4 q5 q6 q7 q8 q9 q10 q11 q12 t_0 t_1 t_2 t_3 t_4
      obtain ⟨q0, q1, q2, q3, q4, q5, q6, q7, q8, q9, q10, q11, q12⟩ := hS.out w7 hbc7
      obtain ⟨t_0, t_1, t_2, t_3, t_4⟩ := hT.out w7 hbe7
      have hz7 := hbw7.size
      have hn36 : n3 ≤ 9223372036854775807 := h3.lenLe
      go_upto_region 8 with fail
      obtain ⟨X, hX⟩ : ∃ X, X = w7.alloc (.cells #[.int .i64 op, .int .i64 nn] 119) := ⟨_, rfl⟩
      have hbX : Below w7.heap.size w7 X := by rw [hX]; (repeat (first | with_reducible exact Below.refl _ _ | with_reducible assumption | with_reducible refine below_alloc ?_ _ | ((with_reducible refine Below.setCell ?_ ?_ _); rotate_left; (· first | exact Nat.le_refl _ | (simp; done) | (simp; omega))) | with_reducible refine below_drewN ?_ _ | with_reducible refine Below.drew ?_ | with_reducible refine below_then ?_ (by with_reducible assumption)))
      have k0 : X.cell? ⟨w7.heap.size, 0, none⟩ = some (.int .i64 op) := by rw [hX]; simp [go_sem]
      have k1 : X.cell? ⟨w7.heap.size, 1, none⟩ = some (.int .i64 nn) := by rw [hX]; simp [go_sem]
      rw [← hX]
      clear hX r0 r1 q0 q1 q2 q3 q4 q5 q6 q7 q8 q9 q10 q11 q12 t_0 t_1 t_2 t_3 t_4
      replace hcH := below_cell hbX hcH
      have hbcX := hbc7.trans (hbX.mono hbc7.size)
      have hbeX := hbe7.trans (hbX.mono hbe7.size)
      have hbwX := hbw7.trans (hbX.mono hbw7.size)
      have hzX := hbwX.size
      obtain ⟨q0, q1, q2, q3, q4, q5, q6, q7, q8, q9, q10, q11, q12⟩ := hS.out X hbcX
      obtain ⟨t_0, t_1, t_2, t_3, t_4⟩ := hT.out X hbeX
      cases last
      rotate_left
      · have HR2 := Lib.hid (HR.out.trans (show linkB x t2 (op, nn) hh0 (n3 : Int) (if true = true then none else some G) = decide ((n3 : Int) = hh0) from rfl))
        go_wp2_with fail
        go_quiet (fail)
        go_wp2_with fail
        go_ret
        refine RetB.mk ?_ (by (repeat (first | with_reducible exact Below.refl _ _ | with_reducible assumption | with_reducible refine below_alloc ?_ _ | ((with_reducible refine Below.setCell ?_ ?_ _); rotate_left; (· first | exact Nat.le_refl _ | (simp; done) | (simp; omega))) | with_reducible refine below_drewN ?_ _ | with_reducible refine Below.drew ?_ | with_reducible refine below_then ?_ (by with_reducible assumption))))
        rw [HR2.out]
        by_cases e : (n3 : Int) = hh0
        · rw [e]; simp
        · rw [decide_eq_false e]; simpa using fun e' => e e'.symm
      obtain ⟨a7, E7⟩ : ∃ r, (op == 7) = r := ⟨_, rfl⟩
      obtain ⟨am, EM⟩ : ∃ r, (g1 == nn) = r := ⟨_, rfl⟩
      obtain ⟨a17, E17⟩ : ∃ r, (op == 17) = r := ⟨_, rfl⟩
      obtain ⟨as_, ES⟩ : ∃ r, (t2.getD nn.toNat 0 == g1) = r := ⟨_, rfl⟩
      have EM2 : (nn == G.2.1) = am := by rw [hG1, ← EM]; exact Bool.eq_iff_iff.2 ⟨fun e => by simpa using (by simpa using e : nn = g1).symm, fun e => by simpa using (by simpa using e : g1 = nn).symm⟩
      have ES2 : (t2.getD nn.toNat 0 == G.2.1) = as_ := by rw [hG1]; exact ES
      have HR2 := HR.out
      rw [if_neg (by simp), linkB_some (g := G) (of_ := g10) E7 hG2 EM2 E17 ES2] at HR2
      replace HR2 := Lib.hid HR2
      have E7h := Lib.hid E7
      have E17h := Lib.hid E17
      have ESh := Lib.hid ES
      clear EM2 ES2 ES hG1 hG2
      have K0 := Lib.hid k0
      have K1 := Lib.hid k1
      go_wp2_with fail
      refine (specL5Takes _ lo hi (some ⟨bc, oc, none⟩) n c x op nn (h.below hbwX hh) (by omega) h7o.out).mono ?_
      rintro e w8 ⟨rfl, hb8⟩
      clear q0 q1 q2 q3 q4 q5 q6 q7 q8 q9 q10 q11 q12 t_0 t_1 t_2 t_3 t_4 k0 k1
      have hbX8 : Below X.heap.size X w8 := hb8
      have hbc8 := hbcX.trans (hbX8.mono hbcX.size)
      have hbe8 := hbeX.trans (hbX8.mono hbeX.size)
      have hbw8 := hbwX.trans (hbX8.mono hbwX.size)
      replace hcH := below_cell hbX8 hcH
      obtain ⟨q0, q1, q2, q3, q4, q5, q6, q7, q8, q9, q10, q11, q12⟩ := hS.out w8 hbc8
      obtain ⟨t_0, t_1, t_2, t_3, t_4⟩ := hT.out w8 hbe8
      obtain ⟨k0, k1⟩ : w8.cell? ⟨w7.heap.size, 0, none⟩ = some (.int .i64 op) ∧ w8.cell? ⟨w7.heap.size, 1, none⟩ = some (.int .i64 nn) := ⟨below_cell hbX8 K0.out, below_cell hbX8 K1.out⟩
      cases a7
      · cases a17
        · have HR3 := Lib.hid (HR2.out.trans (show (if (false && !g10 && am) = true then decide ((n3 : Int) = hh0 - parF x nn) else if (false && g10 && as_) = true then decide ((n3 : Int) = hh0) else false) = false from by simp))
          go_wp2_with fail
          go_ret
          exact RetB.mk HR3.out.symm (by (repeat (first | with_reducible exact Below.refl _ _ | with_reducible assumption | with_reducible refine below_alloc ?_ _ | ((with_reducible refine Below.setCell ?_ ?_ _); rotate_left; (· first | exact Nat.le_refl _ | (simp; done) | (simp; omega))) | with_reducible refine below_drewN ?_ _ | with_reducible refine Below.drew ?_ | with_reducible refine below_then ?_ (by with_reducible assumption))))
        · have hr17 := h17.out (by have := E17h.out; simpa using this)
          obtain ⟨s, hs0⟩ := Int.eq_ofNat_of_zero_le hr17.1
          subst hs0
          have hs2 : s < m2 := by have := HK.out.2.1; have := hr17.2; omega
          obtain ⟨b2, o2, hA2, _, _, c2s, _⟩ := (kS2.below hbc8 (by omega)).int_at hs2
          rw [hA2] at t_2
          have hst2 : s < t2.length := by have := HK.out.2.1; omega
          have ES2 : (g1 == t2[s]'hst2) = as_ := by
            rw [← ESh.out]
            simp only [List.getD, Int.toNat_natCast, List.getElem?_eq_getElem hst2, Option.getD_some]
            exact Bool.eq_iff_iff.2 ⟨fun e => by simpa using (by simpa using e : g1 = t2[s]).symm, fun e => by simpa using (by simpa using e : t2[s] = g1).symm⟩
          have hsI : (s : Int) < (m2 : Int) := by omega
          by_cases eh : (n3 : Int) = hh0
          · have e1 : (hh0 == (n3 : Int)) = true := by simpa using eh.symm
            have HR3 := Lib.hid (HR2.out.trans (show (if (false && !g10 && am) = true then decide ((n3 : Int) = hh0 - parF x (s : Int)) else if (true && g10 && as_) = true then decide ((n3 : Int) = hh0) else false) = (g10 && as_) from by rw [decide_eq_true eh]; cases g10 <;> cases as_ <;> rfl))
            replace eh := Lib.hid eh
            cases g10 <;> cases as_
            all_goals
              go_wp2_with fail
              go_quiet (fail)
              go_wp2_with fail
              go_ret
              exact RetB.mk HR3.out.symm (by (repeat (first | with_reducible exact Below.refl _ _ | with_reducible assumption | with_reducible refine below_alloc ?_ _ | ((with_reducible refine Below.setCell ?_ ?_ _); rotate_left; (· first | exact Nat.le_refl _ | (simp; done) | (simp; omega))) | with_reducible refine below_drewN ?_ _ | with_reducible refine Below.drew ?_ | with_reducible refine below_then ?_ (by with_reducible assumption))))
          · have e1 : (hh0 == (n3 : Int)) = false := by simpa using fun e => eh e.symm
            have HR3 := Lib.hid (HR2.out.trans (show (if (false && !g10 && am) = true then decide ((n3 : Int) = hh0 - parF x (s : Int)) else if (true && g10 && as_) = true then decide ((n3 : Int) = hh0) else false) = false from by rw [decide_eq_false eh]; cases g10 <;> cases as_ <;> rfl))
            replace eh := Lib.hid eh
            cases g10 <;> cases as_
            all_goals
              go_wp2_with fail
              go_quiet (fail)
              go_wp2_with fail
              go_ret
              exact RetB.mk HR3.out.symm (by (repeat (first | with_reducible exact Below.refl _ _ | with_reducible assumption | with_reducible refine below_alloc ?_ _ | ((with_reducible refine Below.setCell ?_ ?_ _); rotate_left; (· first | exact Nat.le_refl _ | (simp; done) | (simp; omega))) | with_reducible refine below_drewN ?_ _ | with_reducible refine Below.drew ?_ | with_reducible refine below_then ?_ (by with_reducible assumption))))
      · have e7 : op = 7 := by have := E7h.out; simpa using this
        have ht : takesF x (op, nn) = parF x nn := by unfold takesF; simp [e7]
        have hpb1 := hpb.out nn
        rw [ht]
        obtain ⟨tk, TK⟩ : ∃ tk, parF x nn = tk := ⟨_, rfl⟩
        rw [TK] at hpb1 ⊢
        have hqp : IntKind.i64.wrap (hh0 - tk) = hh0 - tk := IntWalk.i64_in _ (by omega)
        have e17 : a17 = false := by rw [← E17h.out, e7]; rfl
        by_cases eh : (n3 : Int) = hh0 - tk
        · have e1 : (hh0 - tk == (n3 : Int)) = true := by simpa using eh.symm
          have HR3 := Lib.hid (HR2.out.trans (show (if (true && !g10 && am) = true then decide ((n3 : Int) = hh0 - parF x nn) else if (a17 && g10 && as_) = true then decide ((n3 : Int) = hh0) else false) = (!g10 && am) from by rw [TK, decide_eq_true eh, e17]; cases g10 <;> cases am <;> rfl))
          replace eh := Lib.hid eh
          clear e7 ht TK e17 E17
          cases am <;> cases g10
          all_goals
            go_wp2_with fail
            go_quiet (fail)
            go_wp2_with fail
            go_ret
            exact RetB.mk HR3.out.symm (by (repeat (first | with_reducible exact Below.refl _ _ | with_reducible assumption | with_reducible refine below_alloc ?_ _ | ((with_reducible refine Below.setCell ?_ ?_ _); rotate_left; (· first | exact Nat.le_refl _ | (simp; done) | (simp; omega))) | with_reducible refine below_drewN ?_ _ | with_reducible refine Below.drew ?_ | with_reducible refine below_then ?_ (by with_reducible assumption))))
        · have e1 : (hh0 - tk == (n3 : Int)) = false := by simpa using fun e => eh e.symm
          have HR3 := Lib.hid (HR2.out.trans (show (if (true && !g10 && am) = true then decide ((n3 : Int) = hh0 - parF x nn) else if (a17 && g10 && as_) = true then decide ((n3 : Int) = hh0) else false) = false from by rw [TK, decide_eq_false eh, e17]; cases g10 <;> cases am <;> rfl))
          replace eh := Lib.hid eh
          clear e7 ht TK e17 E17
          cases am <;> cases g10
          all_goals
            go_wp2_with fail
            go_quiet (fail)
            go_wp2_with fail
            go_ret
            exact RetB.mk HR3.out.symm (by (repeat (first | with_reducible exact Below.refl _ _ | with_reducible assumption | with_reducible refine below_alloc ?_ _ | ((with_reducible refine Below.setCell ?_ ?_ _); rotate_left; (· first | exact Nat.le_refl _ | (simp; done) | (simp; omega))) | with_reducible refine below_drewN ?_ _ | with_reducible refine Below.drew ?_ | with_reducible refine below_then ?_ (by with_reducible assumption))))
end Go.Proofs.YtmnkgcjbckamnaaGreat
