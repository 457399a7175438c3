/- The reference's RunTo: walk. -/
import Derived.Test.YtgdeclmciflmpaaGreatToP
import Derived.Test.YtgdeclmciflmpaaGreatStepXt
import Derived.Test.YtgdeclmciflmpaaGreatSsC
import Derived.Test.YtgdeclmciflmpaaGreatSsD
import Derived.Deep.DeepCutAuto
import Derived.Deep.RegionHeld3
import Derived.Deep.QuietTactic
import Derived.BigQuiet
set_option linter.unusedVariables false
set_option linter.unusedSimpArgs false
set_option maxRecDepth 100000
namespace Go.Proofs.YtgdeclmciflmpaaGreat
open Go.RowKit
attribute [local irreducible] wpList
set_option maxHeartbeats 16000000 in
theorem specRunTo1 (w : World) (A : Option Addr) (n c : Nat) (x : List Code) (h : Sl CodeR w 0 w.heap.size A n c x) (Ai : Option Addr) (ni ci : Nat) (ins : List Int) (hi : Sl intR w 0 w.heap.size Ai ni ci ins) (most ticks : Int) (b : Bool) (hb : (askB x ins most && inB ticks 0 60000) = b) :
    Calls Tryz.prog 17 #[.agg #[.slice A n c], .slice Ai ni ci, .int .i64 most, .int .i64 ticks] w (RetVmS (runToR x ins most ticks) b w) := by
  obtain ⟨b1, hb1⟩ : ∃ b, askB x ins most = b := ⟨_, rfl⟩
  obtain ⟨b2, hb2⟩ : ∃ b, inB ticks 0 60000 = b := ⟨_, rfl⟩
  have B1 := Lib.hid hb1
  have B2 := Lib.hid hb2
  rw [hb1, hb2] at hb
  have HB := Lib.hid hb
  have HR0 := Lib.hid (show (b1 && b2) = false → runToR x ins most ticks = vm0 from fun h => by
    unfold runToR
    rw [if_neg (by rw [hb1, hb2]; intro h2; rw [h2.1, h2.2] at h; cases h)])
  clear hb1 hb2 hb
  go_enter Tryz.func17, Tryz.ntmps17
  go_wp2_with fail
  obtain ⟨W, hW⟩ : ∃ W, W = (w.alloc (.cells #[.slice A n c] 35)).alloc (.cells #[.slice none 0 0, .slice none 0 0, .int .i64 0, .int .i64 0, .int .i64 0, .int .i64 0, .slice none 0 0] 30) := ⟨_, rfl⟩
  have hbW : Below w.heap.size w W := by rw [hW]; exact belA
  have hI : W.cell? ⟨w.heap.size, 0, none⟩ = some (.slice A n c) := by rw [hW]; simp [go_sem]
  have hRb : W.heap[w.heap.size + 1]? = some (.cells #[.slice none 0 0, .slice none 0 0, .int .i64 0, .int .i64 0, .int .i64 0, .int .i64 0, .slice none 0 0] 30) := by rw [hW]; exact alloc_new' (by simp)
  have hzW : W.heap.size = w.heap.size + 2 := by rw [hW]; simp
  rw [← hW]
  clear hW
  obtain ⟨R, hR⟩ : ∃ R, w.heap.size + 1 = R := ⟨_, rfl⟩
  rw [hR] at hRb ⊢
  have hRw : w.heap.size < R := by omega
  have hRW : R < W.heap.size := by omega
  clear hR hzW
  have hzW := hbW.size
  refine (specL8Asked W A n c x (h.next hbW) Ai ni ci ins (hi.next hbW) most).mono ?_
  rintro e w1 ⟨rfl, hx1⟩
  rw [B1.out]
  have hbw1 : Below w.heap.size w w1 := below_tr hbW (hx1.mono hzW)
  have hz1 := hx1.size
  have hI1 := below_cell hx1 hI
  have hR1 : w1.heap[R]? = some (.cells #[.slice none 0 0, .slice none 0 0, .int .i64 0, .int .i64 0, .int .i64 0, .int .i64 0, .slice none 0 0] 30) := below_at hx1 hRW hRb
  have hR1l := blk_lt hR1
  have hc := fun o => cell_of_row w1 R o _ _ _ hR1
  have q0 := hc 0
  have q1 := hc 1
  have q2 := hc 2
  have q3 := hc 3
  have q4 := hc 4
  have q5 := hc 5
  have q6 := hc 6
  have qf := blk_frozen hR1
  clear hRb hI hx1 hc
  cases b1
  · have HR9 := Lib.hid (HR0.out rfl)
    have hbf := Lib.hid (show b = false by rw [← HB.out]; rfl)
    go_wp2_with fail
    refine bodyPost_ret (v := .tuple #[.agg #[.slice none 0 0, .slice none 0 0, .int .i64 0, .int .i64 0, .int .i64 0, .int .i64 0, .slice none 0 0], .bool false]) (by simp [results, Tryz.results17, go_sem, q0, q1, q2, q3, q4, q5, q6, qf, hR1l]) rfl ?_
    (rw [HR9.out, hbf.out]; exact RetVO.toS <| RetVO.bad (by exact beloA))
  · go_wp2_with fail
    refine (specL1In w1 ticks 0 60000).mono ?_
    rintro e w2 ⟨rfl, rfl⟩
    rw [B2.out]
    cases b2
    · have HR9 := Lib.hid (HR0.out rfl)
      have hbf := Lib.hid (show b = false by rw [← HB.out]; rfl)
      go_wp2_with fail
      refine bodyPost_ret (v := .tuple #[.agg #[.slice none 0 0, .slice none 0 0, .int .i64 0, .int .i64 0, .int .i64 0, .int .i64 0, .slice none 0 0], .bool false]) (by simp [results, Tryz.results17, go_sem, q0, q1, q2, q3, q4, q5, q6, qf, hR1l]) rfl ?_
      (rw [HR9.out, hbf.out]; exact RetVO.toS <| RetVO.bad (by exact beloA))
    · have hbf := Lib.hid (show b = true by rw [← HB.out]; rfl)
      go_upto_region 3 with fail
      have HASK := Lib.hid B1.out
      have hgood : goodI x = true := by have := B1.out; unfold askB at this; simp only [Bool.and_eq_true] at this; exact this.1.1.1
      have hins : ins.all small = true := by have := B1.out; unfold askB at this; simp only [Bool.and_eq_true] at this; exact this.1.2
      have hmost := inB_iff.1 (show inB most 1 12 = true by have := B1.out; unfold askB at this; simp only [Bool.and_eq_true] at this; exact this.2)
      have htk := inB_iff.1 B2.out
      obtain ⟨T, hT⟩ := Int.eq_ofNat_of_zero_le htk.1
      have HT := Lib.hid hT
      have HTN := Lib.hid (show ticks.toNat = T by omega)
      have hT6 : T ≤ 60000 := by omega
      have hx0 := image_pos hgood
      have hz0 : codeSz (x[0]'hx0) = true := sizedB_mem (goodI_iff.1 hgood).1 _ (List.getElem_mem hx0)
      have hn0 : 0 < n := by have := h.lenEq; omega
      subst hT
      go_region_held3 (fun V' => V'.cell? ⟨w.heap.size, 0, none⟩ = some (.slice A n c)) (exact below_cell (show Below w1.heap.size w1 _ by exact beloA) hI1)
        (first | (go_at_call 38; ((with_reducible refine (specL8New _ 0 w.heap.size A n c x (h.below (show Below w.heap.size w _ by exact beloA) (Nat.le_refl _)) (by first | omega | (simp; done) | (simp; omega)) hn0 hz0).mono ?_); rintro e w5 ⟨A0, n0, c0, F, rfl, hoF, hF, hb5⟩; have bb : Below w1.heap.size w1 w5 := (by exact beloA); have z5 := bb.size)))
      obtain ⟨W6, hW6⟩ : ∃ W6, W6 = w5.alloc (.cells #[.slice A n c, .slice Ai ni ci, .int .i64 most, .slice A0 n0 c0, .slice none 0 0, .int .i64 0, .int .i64 0, .int .i64 0, .int .i64 1, .slice none 0 0] 63) := ⟨_, rfl⟩
      have hb6 : Below w1.heap.size w1 W6 := below_tr bb (by rw [hW6]; exact Below.alloc (Below.refl _ _) z5 _)
      have hX6 : W6.heap[w5.heap.size]? = some (.cells #[.slice A n c, .slice Ai ni ci, .int .i64 most, .slice A0 n0 c0, .slice none 0 0, .int .i64 0, .int .i64 0, .int .i64 0, .int .i64 1, .slice none 0 0] 63) := by rw [hW6]; exact alloc_new' (w := w5) rfl
      have hoF6 : OwnSl FrameR W6 74 F (.slice A0 n0 c0) [newFr (x[0]'hx0).2.1.toNat (x[0]'hx0).2.2.1.length] := by rw [hW6]; exact hoF.below (Below.alloc (Below.refl _ _) (Nat.le_refl _) _)
      have hFX : ∀ k, k ∈ F → k < w5.heap.size := hoF.lt
      rw [← hW6]
      obtain ⟨X, hX⟩ : ∃ X, w5.heap.size = X := ⟨_, rfl⟩
      rw [hX] at hX6 hFX z5 ⊢
      have HM0 := Lib.hid (show MM { B := w1.heap.size, M := X, T := 63, ax := A, nx := n, cx := c, x := x, ai := Ai, ni := ni, ci := ci, ins := ins, most := most, w0 := w1, D := [] } W6 (.slice A0 n0 c0) (newM x) from
        mm_new hX6 (by
          have e : (newM x).fs.reverse = [newFr (x[0]'hx0).2.1.toNat (x[0]'hx0).2.2.1.length] := by
            show [newFrm x 0 0 [] false] = _
            unfold newFrm newFr
            rw [show codeD x 0 = x[0]'hx0 from codeD_at (k := 0) hx0]
            rfl
          rw [e]; exact hoF6) (fun k hk => ⟨hF k hk, fun e => by have e' : k = X := e; have := hFX k hk; omega⟩) z5 ((h.next hbw1).below hb6 (Nat.le_refl _)) ((hi.next hbw1).below hb6 (Nat.le_refl _)) hb6 hb6.size rfl)
      have HOK0 := Lib.hid (newM_ok (ins := ins) hgood)
      clear hW6 hb6 hX6 hoF6 hoF hF hFX hX bb hb5
      go_wp2_with fail
      go_loopw [11] (fun v wr => ∃ (t N : Nat) (s : MS) (vf : Value), t ≤ T ∧ v = .int .i64 ((T - t : Nat) : Int) ∧ Hid (MM { B := w1.heap.size, M := X, T := 63, ax := A, nx := n, cx := c, x := x, ai := Ai, ni := ni, ci := ci, ins := ins, most := most, w0 := w1, D := [] } wr vf s) ∧ Hid (MOk x ins N s) ∧ N + t ≤ 100000 ∧ Hid (runToM x ins most T (newM x) = runToM x ins most t s)) (fun v _ => T - (intOf v).toNat)
      case atStart => exact ⟨T, 1, newM x, _, Nat.le_refl _, by simp, HM0, HOK0, by omega, Lib.hid rfl⟩
      case round =>
        obtain ⟨t, N, s, vf, htT, rfl, HMr, HOK, hNt, HRM⟩ := hrel
        obtain ⟨vt, vn, mv⟩ := HMr.out.mv
        have m3 := mv.m3
        have m4 := mv.m4
        have m5 := mv.m5
        have m6 := mv.m6
        have m7 := mv.m7
        have m8 := mv.m8
        have m9 := mv.m9
        have hMl := mv.lt
        have hbr : Below w1.heap.size w1 wr := HMr.out.oldB
        clear mv
        have HMC := Lib.hid HMr.out
        have hxs := HMr.out.xs
        have hIr : wr.cell? ⟨w.heap.size, 0, none⟩ = some (.slice A n c) := below_cell hbr hI1
        obtain ⟨F0, F1, F6, o0, o1, o6, hnd, hlow⟩ := HMr.out.res m4 m9
        obtain ⟨A0', n0', c0', rfl, hl0⟩ := o0.form
        obtain ⟨A1', n1', c1', rfl, hl1⟩ := o1.form
        obtain ⟨A6', n6', c6', rfl, hl6⟩ := o6.form
        clear hl0 hl1 hl6
        obtain ⟨gb, hgb⟩ : ∃ b, goB x t s = b := ⟨_, rfl⟩
        have GB := Lib.hid hgb
        have HXS := Lib.hid (show Sl CodeR wr 0 wr.heap.size A n c x ∧ Sl FrameR wr 0 wr.heap.size A0' n0' c0' s.fs.reverse ∧ Sl intR wr 0 wr.heap.size A1' n1' c1' s.tr from ⟨hxs.1.more (Nat.le_refl _) hxs.2.2, o0.sl, o1.sl⟩)
        have HO := Lib.hid (And.intro o0 (And.intro o1 o6))
        have hS := Lib.hid (show ∀ V', Below wr.heap.size wr V' → V'.cell? ⟨w.heap.size, 0, none⟩ = some (.slice A n c) ∧ V'.cell? ⟨X, 3, none⟩ = some (.slice A0' n0' c0') ∧ V'.cell? ⟨X, 4, none⟩ = some (.slice A1' n1' c1') ∧ V'.cell? ⟨X, 5, none⟩ = some (.int .i64 s.used) ∧ V'.cell? ⟨X, 6, none⟩ = some (.int .i64 s.code) ∧ V'.cell? ⟨X, 7, none⟩ = some (.int .i64 s.val) ∧ V'.cell? ⟨X, 8, none⟩ = some (.int .i64 s.made) ∧ V'.cell? ⟨X, 9, none⟩ = some (.slice A6' n6' c6') from fun V' hV' => ⟨below_cell hV' hIr, below_cell hV' m3, below_cell hV' m4, below_cell hV' m5, below_cell hV' m6, below_cell hV' m7, below_cell hV' m8, below_cell hV' m9⟩)
        clear hgb hxs o0 o1 o6 hIr m3 m4 m5 m6 m7 m8 m9
        go_upto_region 5 with fail
        go_cut [49] (fun v wx => v = .bool gb ∧ Below wr.heap.size wr wx)
        case first =>
          as_aux_lemma =>
            obtain ⟨c0, c3, c4, c5, c6, c7, c8, c9⟩ := hS.out wr (Below.refl _ _)
            rcases t with _ | u
            · have hT0 : ¬ ((T - 0 : Nat) : Int) < (T : Int) := by omega
              have hn := Lib.hid (show gb = false by rw [← GB.out]; rfl)
              go_quiet (fail)
              go_wp2_with fail
              go_meet
              case rel => exact ⟨by (rw [hn.out]; try rfl), by exact beloA⟩
            · have hT1 : ((T - (u + 1) : Nat) : Int) < (T : Int) := by omega
              by_cases hc : s.code = 0
              · obtain ⟨f, rest, RR⟩ := HOK.out.rdy (most := most) hgood hins (by omega) (by omega) hc
                have HTL := Lib.hid (top_last RR hc)
                obtain ⟨rz, hrz⟩ : ∃ b, raiseB x s.fs.reverse 0 = b := ⟨_, rfl⟩
                have HRZ := Lib.hid hrz
                have hn := Lib.hid (show gb = !rz by rw [← GB.out]; unfold goB; rw [hc, hrz]; simp)
                have hS0 := Lib.hid (show ∀ V', Below wr.heap.size wr V' → V'.cell? ⟨w.heap.size, 0, none⟩ = some (.slice A n c) ∧ V'.cell? ⟨X, 3, none⟩ = some (.slice A0' n0' c0') ∧ V'.cell? ⟨X, 4, none⟩ = some (.slice A1' n1' c1') ∧ V'.cell? ⟨X, 5, none⟩ = some (.int .i64 s.used) ∧ V'.cell? ⟨X, 6, none⟩ = some (.int .i64 0) ∧ V'.cell? ⟨X, 7, none⟩ = some (.int .i64 s.val) ∧ V'.cell? ⟨X, 8, none⟩ = some (.int .i64 s.made) ∧ V'.cell? ⟨X, 9, none⟩ = some (.slice A6' n6' c6') from fun V' hV' => by have hq := hS.out V' hV'; rw [hc] at hq; exact hq)
                rw [hc] at c6
                clear hc hrz RR
                go_region_held3 (fun V' => V'.cell? ⟨w.heap.size, 0, none⟩ = some (.slice A n c) ∧ V'.cell? ⟨X, 3, none⟩ = some (.slice A0' n0' c0') ∧ V'.cell? ⟨X, 4, none⟩ = some (.slice A1' n1' c1') ∧ V'.cell? ⟨X, 5, none⟩ = some (.int .i64 s.used) ∧ V'.cell? ⟨X, 6, none⟩ = some (.int .i64 0) ∧ V'.cell? ⟨X, 7, none⟩ = some (.int .i64 s.val) ∧ V'.cell? ⟨X, 8, none⟩ = some (.int .i64 s.made) ∧ V'.cell? ⟨X, 9, none⟩ = some (.slice A6' n6' c6')) (exact hS0.out _ (show Below wr.heap.size wr _ by exact beloA))
                  (first | (go_at_call 39; ((with_reducible refine (specL9Raising0 _ 0 wr.heap.size A n c x A0' n0' c0' _ A1' n1' c1' _ s.used 0 s.val s.made A6' n6' c6' (HXS.out.1.below (show Below wr.heap.size wr _ by exact beloA) (Nat.le_refl _)) (HXS.out.2.1.below (show Below wr.heap.size wr _ by exact beloA) (Nat.le_refl _)) (HXS.out.2.2.below (show Below wr.heap.size wr _ by exact beloA) (Nat.le_refl _)) (by first | omega | (simp; done) | (simp; omega)) hgood (fun _ => HTL.out)).mono ?_); rintro e w7 ⟨rfl, hb7⟩; have b7 : Below wr.heap.size wr w7 := (by exact beloA); have z7 := b7.size; rw [HRZ.out])))
                all_goals
                  go_wp2_with fail
                  go_meet
                  case rel => exact ⟨by (rw [hn.out]; try rfl), by exact beloA⟩
              · have hn := Lib.hid (show gb = false by rw [← GB.out]; unfold goB; simp [hc])
                have hc' : (s.code == 0) = false := by simpa using hc
                go_quiet (fail)
                go_wp2_with fail
                go_meet
                case rel => exact ⟨by (rw [hn.out]; try rfl), by exact beloA⟩
        case rest =>
          obtain ⟨rfl, hbe⟩ := hcut
          obtain ⟨_, c3, c4, c5, c6, c7, c8, c9⟩ := hS.out wc hbe
          have HMc := HMC.out.keep hbe
          have hbc : Below w1.heap.size w1 wc := HMc.oldB
          cases gb
          · have HRR := Lib.hid (show runToR x ins most (T : Int) = vmOf s from by
              unfold runToR
              rw [if_pos ⟨HASK.out, B2.out⟩, HTN.out]
              exact congrArg vmOf (HRM.out.trans (goB_no GB.out)))
            have hRr : wc.heap[R]? = w1.heap[R]? := hbc.block R hR1l
            have hRl : R < wc.heap.size := by have := hbc.size; omega
            have r0 := (World.cell?_of_block (a := ⟨R, 0, none⟩) hRr).trans q0
            have r1 := (World.cell?_of_block (a := ⟨R, 1, none⟩) hRr).trans q1
            have r2 := (World.cell?_of_block (a := ⟨R, 2, none⟩) hRr).trans q2
            have r3 := (World.cell?_of_block (a := ⟨R, 3, none⟩) hRr).trans q3
            have r4 := (World.cell?_of_block (a := ⟨R, 4, none⟩) hRr).trans q4
            have r5 := (World.cell?_of_block (a := ⟨R, 5, none⟩) hRr).trans q5
            have r6 := (World.cell?_of_block (a := ⟨R, 6, none⟩) hRr).trans q6
            have rf := fun o => (World.frozen?_of_block (a := ⟨R, o, none⟩) hRr).trans (qf o)
            have hbwc : Below w.heap.size w wc := below_tr hbw1 (hbc.mono (by omega))
            obtain ⟨o0, o1, o6⟩ := HO.out
            have s0 := (o0.below hbe).sl
            have s1 := (o1.below hbe).sl
            have s6 := (o6.below hbe).sl
            have hok := HOK.out
            have z0 : n0' ≤ 12 := by have := s0.lenEq; have := hok.many; simp only [List.length_reverse] at *; omega
            have z1 : n1' ≤ 1000000 := by have := s1.lenEq; have := hok.tr.1; omega
            have z6 : n6' ≤ 1000000 := by have := s6.lenEq; have := hok.notes; omega
            have zf : ∀ f, f ∈ s.fs.reverse → (fPile f).length ≤ 1000000 ∧ f.2.2.2.2.1.length ≤ 1000000 ∧ f.2.2.2.2.2.1.length ≤ 1000000 := fun f hf => by
              have hf' : f ∈ s.fs := by simpa using hf
              have h9 := hok.lens f hf'
              have h8 := frW hgood h9.1
              have := h8.vl
              have := h8.fl
              have := h8.sl
              have := h9.2
              omega
            clear o0 o1 o6 hok
            go_wp2_with fail
            refine (specL8Own wc A0' n0' c0' _ s0 A1' n1' c1' _ s1 _ _ _ _ A6' n6' c6' _ s6 (by omega) zf z1 z6).mono ?_
            rintro e w3 ⟨B0, m0, d0, B1', m1, d1, B6, m6, d6, rfl, g0, g1, g6, b3⟩
            have z3 := b3.size
            have p0 := below_cell b3 r0
            have p1 := below_cell b3 r1
            have p2 := below_cell b3 r2
            have p3 := below_cell b3 r3
            have p4 := below_cell b3 r4
            have p5 := below_cell b3 r5
            have p6 := below_cell b3 r6
            have pf := fun o => below_frozen (p := ⟨R, o, none⟩) b3 hRl (rf o)
            have hRl3 : R < w3.heap.size := by omega
            have hbw3 : Below w.heap.size w w3 := below_tr hbwc (b3.mono (by have := hbwc.size; omega))
            have G0 := Lib.hid g0
            have G1 := Lib.hid g1
            have G6 := Lib.hid g6
            clear q0 q1 q2 q3 q4 q5 q6 qf g0 g1 g6 s0 s1 s6 zf b3 r0 r1 r2 r3 r4 r5 r6 rf hRr
            go_wp2_with fail
            refine bodyPost_ret (v := .tuple #[.agg #[.slice B0 m0 d0, .slice B1' m1 d1, .int .i64 s.used, .int .i64 s.code, .int .i64 s.val, .int .i64 s.made, .slice B6 m6 d6], .bool true]) (by simp [results, Tryz.results17, go_sem, p0, p1, p2, p3, p4, p5, p6, pf, hRl3]) rfl ?_
            have hfR : Fr [R] w3 (((((((w3.setCell ⟨R, 0, none⟩ (.slice B0 m0 d0)).setCell ⟨R, 1, none⟩ (.slice B1' m1 d1)).setCell ⟨R, 2, none⟩ (.int .i64 s.used)).setCell ⟨R, 3, none⟩ (.int .i64 s.code)).setCell ⟨R, 4, none⟩ (.int .i64 s.val)).setCell ⟨R, 5, none⟩ (.int .i64 s.made)).setCell ⟨R, 6, none⟩ (.slice B6 m6 d6)) := by exact frcA
            have hzf := hfR.size
            have hk : ∀ k, k ∈ [R] → k < wc.heap.size ∨ w3.heap.size ≤ k := fun k hk => Or.inl (by rw [List.mem_singleton.1 hk]; exact hRl)
            have s0 := (G0.out.fr hfR (Nat.le_refl _) hk).more (Nat.zero_le _) hzf
            have s1 := (G1.out.fr hfR (Nat.le_refl _) hk).more (Nat.zero_le _) hzf
            have s6 := (G6.out.fr hfR (Nat.le_refl _) hk).more (Nat.zero_le _) hzf
            rw [HRR.out, hbf.out]
            exact ⟨B0, m0, d0, B1', m1, d1, B6, m6, d6, rfl, s0, s1, s6, by exact beloA⟩
          · obtain ⟨u, rfl, hc, hgo⟩ := goB_yes (ins := ins) (most := most) GB.out
            obtain ⟨f, rest, RR⟩ := HOK.out.rdy (most := most) hgood hins (by omega) (by omega) hc
            have HC := Lib.hid hc
            have HGO := Lib.hid hgo
            clear hc hgo c3 c4 c5 c6 c7 c8 c9
            have hT2 : ((T - (u + 1) : Nat) : Int) + 1 = ((T - u : Nat) : Int) := by omega
            go_wp2_with fail
            refine (specStep { B := w1.heap.size, M := X, T := 63, ax := A, nx := n, cx := c, x := x, ai := Ai, ni := ni, ci := ci, ins := ins, most := most, w0 := w1, D := [] } wc _ s f rest N HMc RR).mono ?_
            rintro e w8 ⟨rfl, vf8, h8⟩
            have H8 := Lib.hid h8
            have HOK8 := Lib.hid (step_ok hgood hins (by omega) (show most ≤ 12 by omega) HOK.out HC.out)
            have HRM8 := Lib.hid (show runToM x ins most T (newM x) = runToM x ins most u (stepF x ins most s) from HRM.out.trans HGO.out)
            clear h8
            go_wp2_with fail
            go_roundw
            case rel => exact ⟨u, N + 1, _, vf8, by omega, by first | rfl | (rw [hT2]) | go_num, H8, HOK8, by omega, HRM8⟩
            case measure => simp [intOf]; omega
theorem implRunToC (w : World) (A : Option Addr) (n c : Nat) (x : List Code) (Ai : Option Addr) (ni ci : Nat) (ins : List Int) (most ticks : Int) (h : Sl CodeR w 0 w.heap.size A n c x) (_ : mszLCode x ≤ 1048576) (hi : Sl intR w 0 w.heap.size Ai ni ci ins) (_ : I64 most) (_ : I64 ticks) (s0 : List Frame) (s1 : List Int) (x2 x3 x4 x5 : Int) (s6 : List Note) (hz : runToR x ins most ticks = (s0, s1, x2, x3, x4, x5, s6)) (b : Bool) (hb : (askB x ins most && inB ticks 0 60000) = b) :
    Calls Tryz.prog 18 #[.agg #[.slice A n c], .slice Ai ni ci, .int .i64 most, .int .i64 ticks] w (RetVO s0 s1 x2 x3 x4 x5 s6 b w) := by
  have h1 := implRunTo1 w A n c x h Ai ni ci ins hi most ticks b hb
  unfold RetVm at h1
  rw [hz] at h1
  exact h1
theorem specRunToC (w : World) (A : Option Addr) (n c : Nat) (x : List Code) (Ai : Option Addr) (ni ci : Nat) (ins : List Int) (most ticks : Int) (h : Sl CodeR w 0 w.heap.size A n c x) (_ : mszLCode x ≤ 1048576) (hi : Sl intR w 0 w.heap.size Ai ni ci ins) (_ : I64 most) (_ : I64 ticks) (s0 : List Frame) (s1 : List Int) (x2 x3 x4 x5 : Int) (s6 : List Note) (hz : runToR x ins most ticks = (s0, s1, x2, x3, x4, x5, s6)) (b : Bool) (hb : (askB x ins most && inB ticks 0 60000) = b) :
    Calls Tryz.prog 17 #[.agg #[.slice A n c], .slice Ai ni ci, .int .i64 most, .int .i64 ticks] w (RetVS s0 s1 x2 x3 x4 x5 s6 b w) := by
  have h1 := specRunTo1 w A n c x h Ai ni ci ins hi most ticks b hb
  unfold RetVmS at h1
  rw [hz] at h1
  exact h1
end Go.Proofs.YtgdeclmciflmpaaGreat
