/- Several texts in one: StepX, StepY, StepZ. -/
import Derived.Test.YtgdeclmciflmpaaGreatSsD
import Derived.Test.YtgdeclmciflmpaaGreatStD
import Derived.Test.YtgdeclmciflmpaaGreatSsC

/- The program's RunVm: walk. -/
set_option linter.unusedVariables false
set_option linter.unusedSimpArgs false
set_option maxRecDepth 100000
namespace Go.Proofs.YtgdeclmciflmpaaGreat
open Go.RowKit
attribute [local irreducible] wpList
set_option maxHeartbeats 16000000 in
theorem implRunVm1 (w : World) (A : Option Addr) (n c : Nat) (x : List Code) (h : Sl CodeR w 0 w.heap.size A n c x) (Ai : Option Addr) (ni ci : Nat) (ins : List Int) (hi : Sl intR w 0 w.heap.size Ai ni ci ins) (most ticks : Int) (b : Bool) (hb : (askB x ins most && inB ticks 0 60000) = b) :
    Calls Tryz.prog 9 #[.agg #[.slice A n c], .slice Ai ni ci, .int .i64 most, .int .i64 ticks] w (RetVm (runR x ins most ticks) b w) := by
  obtain ⟨b1, hb1⟩ : ∃ b, askB x ins most = b := ⟨_, rfl⟩
  obtain ⟨b2, hb2⟩ : ∃ b, inB ticks 0 60000 = b := ⟨_, rfl⟩
  have B1 := Lib.hid hb1
  have B2 := Lib.hid hb2
  rw [hb1, hb2] at hb
  have HB := Lib.hid hb
  have HR0 := Lib.hid (show (b1 && b2) = false → runR x ins most ticks = vm0 from fun h => by
    unfold runR
    rw [if_neg (by rw [hb1, hb2]; intro h2; rw [h2.1, h2.2] at h; cases h)])
  clear hb1 hb2 hb
  go_enter Tryz.func9, Tryz.ntmps9
  go_wp2_with fail
  obtain ⟨W, hW⟩ : ∃ W, W = (w.alloc (.cells #[.slice A n c] 35)).alloc (.cells #[.slice none 0 0, .slice none 0 0, .int .i64 0, .int .i64 0, .int .i64 0, .int .i64 0, .slice none 0 0] 30) := ⟨_, rfl⟩
  have hbW : Below w.heap.size w W := by rw [hW]; exact belA
  have hI : W.cell? ⟨w.heap.size, 0, none⟩ = some (.slice A n c) := by rw [hW]; simp [go_sem]
  have hRb : W.heap[w.heap.size + 1]? = some (.cells #[.slice none 0 0, .slice none 0 0, .int .i64 0, .int .i64 0, .int .i64 0, .int .i64 0, .slice none 0 0] 30) := by rw [hW]; exact alloc_new' (by simp)
  have hzW : W.heap.size = w.heap.size + 2 := by rw [hW]; simp
  rw [← hW]
  clear hW
  obtain ⟨R, hR⟩ : ∃ R, w.heap.size + 1 = R := ⟨_, rfl⟩
  rw [hR] at hRb ⊢
  have hRw : w.heap.size < R := by omega
  have hRW : R < W.heap.size := by omega
  clear hR hzW
  have hzW := hbW.size
  refine (implAreRun W A n c x (h.next hbW) Ai ni ci ins (hi.next hbW) most).mono ?_
  rintro e w1 ⟨rfl, hx1⟩
  rw [B1.out]
  have hbw1 : Below w.heap.size w w1 := below_tr hbW (hx1.mono hzW)
  have hz1 := hx1.size
  have hI1 := below_cell hx1 hI
  have hR1 : w1.heap[R]? = some (.cells #[.slice none 0 0, .slice none 0 0, .int .i64 0, .int .i64 0, .int .i64 0, .int .i64 0, .slice none 0 0] 30) := below_at hx1 hRW hRb
  have hR1l := blk_lt hR1
  have hc := fun o => cell_of_row w1 R o _ _ _ hR1
  have q0 := hc 0
  have q1 := hc 1
  have q2 := hc 2
  have q3 := hc 3
  have q4 := hc 4
  have q5 := hc 5
  have q6 := hc 6
  have qf := blk_frozen hR1
  clear hRb hI hx1 hc
  cases b1
  · have HR9 := Lib.hid (HR0.out rfl)
    have hbf := Lib.hid (show b = false by rw [← HB.out]; rfl)
    go_wp2_with fail
    refine bodyPost_ret (v := .tuple #[.agg #[.slice none 0 0, .slice none 0 0, .int .i64 0, .int .i64 0, .int .i64 0, .int .i64 0, .slice none 0 0], .bool false]) (by simp [results, Tryz.results9, go_sem, q0, q1, q2, q3, q4, q5, q6, qf, hR1l]) rfl ?_
    (rw [HR9.out, hbf.out]; exact RetVO.bad (by exact beloA))
  · go_wp2_with fail
    refine (implWithin w1 ticks 0 60000).mono ?_
    rintro e w2 ⟨rfl, rfl⟩
    rw [B2.out]
    cases b2
    · have HR9 := Lib.hid (HR0.out rfl)
      have hbf := Lib.hid (show b = false by rw [← HB.out]; rfl)
      go_wp2_with fail
      refine bodyPost_ret (v := .tuple #[.agg #[.slice none 0 0, .slice none 0 0, .int .i64 0, .int .i64 0, .int .i64 0, .int .i64 0, .slice none 0 0], .bool false]) (by simp [results, Tryz.results9, go_sem, q0, q1, q2, q3, q4, q5, q6, qf, hR1l]) rfl ?_
      (rw [HR9.out, hbf.out]; exact RetVO.bad (by exact beloA))
    · have hbf := Lib.hid (show b = true by rw [← HB.out]; rfl)
      go_upto_region 3 with fail
      have HASK := Lib.hid B1.out
      have hgood : goodI x = true := by have := B1.out; unfold askB at this; simp only [Bool.and_eq_true] at this; exact this.1.1.1
      have hins : ins.all small = true := by have := B1.out; unfold askB at this; simp only [Bool.and_eq_true] at this; exact this.1.2
      have hmost := inB_iff.1 (show inB most 1 12 = true by have := B1.out; unfold askB at this; simp only [Bool.and_eq_true] at this; exact this.2)
      have htk := inB_iff.1 B2.out
      obtain ⟨T, hT⟩ := Int.eq_ofNat_of_zero_le htk.1
      have HT := Lib.hid hT
      have hT6 : T ≤ 60000 := by omega
      have hx0 := image_pos hgood
      have hz0 : codeSz (x[0]'hx0) = true := sizedB_mem (goodI_iff.1 hgood).1 _ (List.getElem_mem hx0)
      have hn0 : 0 < n := by have := h.lenEq; omega
      clear hT
      go_region_held3 (fun V' => V'.cell? ⟨w.heap.size, 0, none⟩ = some (.slice A n c)) (exact below_cell (show Below w1.heap.size w1 _ by exact beloA) hI1)
        (first | (go_at_call 27; ((with_reducible refine (implNewVm1 _ 0 w.heap.size A n c x (h.below (show Below w.heap.size w _ by exact beloA) (Nat.le_refl _)) (by first | omega | (simp; done) | (simp; omega)) hn0 hz0).mono ?_); rintro e w5 ⟨A0, n0, c0, F, rfl, hoF, hF, hb5⟩; have bb : Below w1.heap.size w1 w5 := (by exact beloA); have z5 := bb.size)))
      obtain ⟨W6, hW6⟩ : ∃ W6, W6 = w5.alloc (.cells #[.slice A n c, .slice Ai ni ci, .int .i64 most, .slice A0 n0 c0, .slice none 0 0, .int .i64 0, .int .i64 0, .int .i64 0, .int .i64 1, .slice none 0 0] 54) := ⟨_, rfl⟩
      have hb6 : Below w1.heap.size w1 W6 := below_tr bb (by rw [hW6]; exact Below.alloc (Below.refl _ _) z5 _)
      have hX6 : W6.heap[w5.heap.size]? = some (.cells #[.slice A n c, .slice Ai ni ci, .int .i64 most, .slice A0 n0 c0, .slice none 0 0, .int .i64 0, .int .i64 0, .int .i64 0, .int .i64 1, .slice none 0 0] 54) := by rw [hW6]; exact alloc_new' (w := w5) rfl
      have hoF6 : OwnSl FrameR W6 74 F (.slice A0 n0 c0) [newFr (x[0]'hx0).2.1.toNat (x[0]'hx0).2.2.1.length] := by rw [hW6]; exact hoF.below (Below.alloc (Below.refl _ _) (Nat.le_refl _) _)
      have hFX : ∀ k, k ∈ F → k < w5.heap.size := hoF.lt
      rw [← hW6]
      obtain ⟨X, hX⟩ : ∃ X, w5.heap.size = X := ⟨_, rfl⟩
      rw [hX] at hX6 hFX z5 ⊢
      have HM0 := Lib.hid (show MM { B := w1.heap.size, M := X, T := 54, ax := A, nx := n, cx := c, x := x, ai := Ai, ni := ni, ci := ci, ins := ins, most := most, w0 := w1, D := [] } W6 (.slice A0 n0 c0) (newM x) from
        mm_new hX6 (by
          have e : (newM x).fs.reverse = [newFr (x[0]'hx0).2.1.toNat (x[0]'hx0).2.2.1.length] := by
            show [newFrm x 0 0 [] false] = _
            unfold newFrm newFr
            rw [show codeD x 0 = x[0]'hx0 from codeD_at (k := 0) hx0]
            rfl
          rw [e]; exact hoF6) (fun k hk => ⟨hF k hk, fun e => by have e' : k = X := e; have := hFX k hk; omega⟩) z5 ((h.next hbw1).below hb6 (Nat.le_refl _)) ((hi.next hbw1).below hb6 (Nat.le_refl _)) hb6 hb6.size rfl)
      have HOK0 := Lib.hid (newM_ok (ins := ins) hgood)
      clear hW6 hb6 hX6 hoF6 hoF hF hFX hX bb hb5
      go_wp2_with fail
      go_loopw [3] (fun v wr => ∃ (t N : Nat) (s : MS) (vf : Value), v = .int .i64 t ∧ Hid (MM { B := w1.heap.size, M := X, T := 54, ax := A, nx := n, cx := c, x := x, ai := Ai, ni := ni, ci := ci, ins := ins, most := most, w0 := w1, D := [] } wr vf s) ∧ Hid (MOk x ins N s) ∧ N + t ≤ 1000000 ∧ Hid (runM x ins most T (newM x) = runM x ins most t s)) (fun v _ => (intOf v).toNat)
      case atStart => exact ⟨T, 1, newM x, _, by rw [HT.out], HM0, HOK0, by omega, Lib.hid rfl⟩
      case round =>
        obtain ⟨t, N, s, vf, rfl, HMr, HOK, hNt, HRM⟩ := hrel
        obtain ⟨vt, vn, mv⟩ := HMr.out.mv
        have m3 := mv.m3
        have m4 := mv.m4
        have m5 := mv.m5
        have m6 := mv.m6
        have m7 := mv.m7
        have m8 := mv.m8
        have m9 := mv.m9
        have hMl := mv.lt
        have hbr : Below w1.heap.size w1 wr := HMr.out.oldB
        clear mv
        rcases t with _ | u
        · have hT0 : ¬ ((0 : Nat) : Int) > 0 := by omega
          obtain ⟨F0, F1, F6, o0, o1, o6, hnd, hlow⟩ := HMr.out.res m4 m9
          obtain ⟨A0', n0', c0', rfl, hl0⟩ := o0.form
          obtain ⟨A1', n1', c1', rfl, hl1⟩ := o1.form
          obtain ⟨A6', n6', c6', rfl, hl6⟩ := o6.form
          clear hl0 hl1 hl6
          have hRr : wr.heap[R]? = w1.heap[R]? := hbr.block R hR1l
          have hRl : R < wr.heap.size := by have := hbr.size; omega
          have r0 := (World.cell?_of_block (a := ⟨R, 0, none⟩) hRr).trans q0
          have r1 := (World.cell?_of_block (a := ⟨R, 1, none⟩) hRr).trans q1
          have r2 := (World.cell?_of_block (a := ⟨R, 2, none⟩) hRr).trans q2
          have r3 := (World.cell?_of_block (a := ⟨R, 3, none⟩) hRr).trans q3
          have r4 := (World.cell?_of_block (a := ⟨R, 4, none⟩) hRr).trans q4
          have r5 := (World.cell?_of_block (a := ⟨R, 5, none⟩) hRr).trans q5
          have r6 := (World.cell?_of_block (a := ⟨R, 6, none⟩) hRr).trans q6
          have rf := fun o => (World.frozen?_of_block (a := ⟨R, o, none⟩) hRr).trans (qf o)
          have HO := Lib.hid (And.intro o0 (And.intro o1 o6))
          have HRR := Lib.hid (show runR x ins most ticks = vmOf s from by
            unfold runR
            rw [if_pos ⟨HASK.out, B2.out⟩, HT.out]
            exact congrArg vmOf (HRM.out))
          clear o0 o1 o6 q0 q1 q2 q3 q4 q5 q6 hRr
          go_wp2_with fail
          refine bodyPost_ret (v := .tuple #[.agg #[.slice A0' n0' c0', .slice A1' n1' c1', .int .i64 s.used, .int .i64 s.code, .int .i64 s.val, .int .i64 s.made, .slice A6' n6' c6'], .bool true]) (by simp [results, Tryz.results9, go_sem, r0, r1, r2, r3, r4, r5, r6, rf, hRl]) rfl ?_
          rw [HRR.out, hbf.out]
          have hfr : Fr [R] wr (((((((wr.setCell ⟨R, 0, none⟩ (.slice A0' n0' c0')).setCell ⟨R, 1, none⟩ (.slice A1' n1' c1')).setCell ⟨R, 2, none⟩ (.int .i64 s.used)).setCell ⟨R, 3, none⟩ (.int .i64 s.code)).setCell ⟨R, 4, none⟩ (.int .i64 s.val)).setCell ⟨R, 5, none⟩ (.int .i64 s.made)).setCell ⟨R, 6, none⟩ (.slice A6' n6' c6')) := by exact frcA
          have hlw : ∀ k, k ∈ F0 ++ (F1 ++ F6) → w1.heap.size ≤ k := hlow
          have hbwr : Below w.heap.size w wr := below_tr hbw1 (hbr.mono (by omega))
          obtain ⟨o0, o1, o6⟩ := HO.out
          exact ⟨A0', n0', c0', A1', n1', c1', A6', n6', c6', F0, F1, F6, rfl, o0.fr hfr (fun k hk hx => by have := hlw k (List.mem_append_left _ hk); have := List.mem_singleton.1 hx; omega), o1.fr hfr (fun k hk hx => by have := hlw k (List.mem_append_right _ (List.mem_append_left _ hk)); have := List.mem_singleton.1 hx; omega), o6.fr hfr (fun k hk hx => by have := hlw k (List.mem_append_right _ (List.mem_append_right _ hk)); have := List.mem_singleton.1 hx; omega), hnd, fun k hk => by have := hlw k hk; omega, by exact beloA⟩
        · have hT1 : ((u + 1 : Nat) : Int) > 0 := by omega
          by_cases hc : s.code = 0
          · obtain ⟨f, rest, RR⟩ := HOK.out.rdy (most := most) hgood hins (by omega) (by omega) hc
            rw [hc] at m6
            have HC := Lib.hid hc
            clear hc
            go_wp2_with fail
            refine (implStep { B := w1.heap.size, M := X, T := 54, ax := A, nx := n, cx := c, x := x, ai := Ai, ni := ni, ci := ci, ins := ins, most := most, w0 := w1, D := [] } wr vf s f rest N HMr.out RR).mono ?_
            rintro e w8 ⟨rfl, vf8, h8⟩
            have H8 := Lib.hid h8
            have HOK8 := Lib.hid (step_ok hgood hins (by omega) (show most ≤ 12 by omega) HOK.out HC.out)
            have HRM8 := Lib.hid (show runM x ins most T (newM x) = runM x ins most u (stepF x ins most s) from HRM.out.trans (by conv => lhs; unfold runM; rw [if_pos HC.out]))
            clear h8 m3 m4 m5 m6 m7 m8 m9
            go_wp2_with fail
            go_roundw
            case rel => exact ⟨u, N + 1, _, vf8, by go_num, H8, HOK8, by omega, HRM8⟩
            case measure => simp [intOf]
          · have hc' : ¬ s.code = 0 := hc
            obtain ⟨F0, F1, F6, o0, o1, o6, hnd, hlow⟩ := HMr.out.res m4 m9
            obtain ⟨A0', n0', c0', rfl, hl0⟩ := o0.form
            obtain ⟨A1', n1', c1', rfl, hl1⟩ := o1.form
            obtain ⟨A6', n6', c6', rfl, hl6⟩ := o6.form
            clear hl0 hl1 hl6
            have hRr : wr.heap[R]? = w1.heap[R]? := hbr.block R hR1l
            have hRl : R < wr.heap.size := by have := hbr.size; omega
            have r0 := (World.cell?_of_block (a := ⟨R, 0, none⟩) hRr).trans q0
            have r1 := (World.cell?_of_block (a := ⟨R, 1, none⟩) hRr).trans q1
            have r2 := (World.cell?_of_block (a := ⟨R, 2, none⟩) hRr).trans q2
            have r3 := (World.cell?_of_block (a := ⟨R, 3, none⟩) hRr).trans q3
            have r4 := (World.cell?_of_block (a := ⟨R, 4, none⟩) hRr).trans q4
            have r5 := (World.cell?_of_block (a := ⟨R, 5, none⟩) hRr).trans q5
            have r6 := (World.cell?_of_block (a := ⟨R, 6, none⟩) hRr).trans q6
            have rf := fun o => (World.frozen?_of_block (a := ⟨R, o, none⟩) hRr).trans (qf o)
            have HO := Lib.hid (And.intro o0 (And.intro o1 o6))
            have HRR := Lib.hid (show runR x ins most ticks = vmOf s from by
              unfold runR
              rw [if_pos ⟨HASK.out, B2.out⟩, HT.out]
              exact congrArg vmOf (HRM.out.trans (runM_stop hc' _)))
            clear o0 o1 o6 q0 q1 q2 q3 q4 q5 q6 hRr
            go_wp2_with fail
            refine bodyPost_ret (v := .tuple #[.agg #[.slice A0' n0' c0', .slice A1' n1' c1', .int .i64 s.used, .int .i64 s.code, .int .i64 s.val, .int .i64 s.made, .slice A6' n6' c6'], .bool true]) (by simp [results, Tryz.results9, go_sem, r0, r1, r2, r3, r4, r5, r6, rf, hRl]) rfl ?_
            rw [HRR.out, hbf.out]
            have hfr : Fr [R] wr (((((((wr.setCell ⟨R, 0, none⟩ (.slice A0' n0' c0')).setCell ⟨R, 1, none⟩ (.slice A1' n1' c1')).setCell ⟨R, 2, none⟩ (.int .i64 s.used)).setCell ⟨R, 3, none⟩ (.int .i64 s.code)).setCell ⟨R, 4, none⟩ (.int .i64 s.val)).setCell ⟨R, 5, none⟩ (.int .i64 s.made)).setCell ⟨R, 6, none⟩ (.slice A6' n6' c6')) := by exact frcA
            have hlw : ∀ k, k ∈ F0 ++ (F1 ++ F6) → w1.heap.size ≤ k := hlow
            have hbwr : Below w.heap.size w wr := below_tr hbw1 (hbr.mono (by omega))
            obtain ⟨o0, o1, o6⟩ := HO.out
            exact ⟨A0', n0', c0', A1', n1', c1', A6', n6', c6', F0, F1, F6, rfl, o0.fr hfr (fun k hk hx => by have := hlw k (List.mem_append_left _ hk); have := List.mem_singleton.1 hx; omega), o1.fr hfr (fun k hk hx => by have := hlw k (List.mem_append_right _ (List.mem_append_left _ hk)); have := List.mem_singleton.1 hx; omega), o6.fr hfr (fun k hk hx => by have := hlw k (List.mem_append_right _ (List.mem_append_right _ hk)); have := List.mem_singleton.1 hx; omega), hnd, fun k hk => by have := hlw k hk; omega, by exact beloA⟩
end Go.Proofs.YtgdeclmciflmpaaGreat

/- The reference's run: walk. -/
set_option linter.unusedVariables false
set_option linter.unusedSimpArgs false
set_option maxRecDepth 100000
namespace Go.Proofs.YtgdeclmciflmpaaGreat
open Go.RowKit
attribute [local irreducible] wpList
/-- A machine's struct is told; its slices read as they should. -/
def RetVr (v : Vm) (w : World) (e : Ending) (w' : World) : Prop :=
  ∃ A0 n0 c0 A1 n1 c1 A6 n6 c6, e = .returned (.agg #[.slice A0 n0 c0, .slice A1 n1 c1, .int .i64 v.2.2.1, .int .i64 v.2.2.2.1, .int .i64 v.2.2.2.2.1, .int .i64 v.2.2.2.2.2.1, .slice A6 n6 c6]) ∧ Sl FrameR w' 0 w'.heap.size A0 n0 c0 v.1 ∧ Sl intR w' 0 w'.heap.size A1 n1 c1 v.2.1 ∧ Sl noteR w' 0 w'.heap.size A6 n6 c6 v.2.2.2.2.2.2 ∧ Below w.heap.size w w'
set_option maxHeartbeats 16000000 in
theorem specL8Run (w : World) (A : Option Addr) (n c : Nat) (x : List Code) (h : Sl CodeR w 0 w.heap.size A n c x) (Ai : Option Addr) (ni ci : Nat) (ins : List Int) (hi : Sl intR w 0 w.heap.size Ai ni ci ins) (most : Int) (T : Nat) (hgood : goodI x = true) (hins : ins.all small = true) (hmost : most ≤ 12) (hT6 : T ≤ 60000) :
    Calls Tryz.prog 23 #[.agg #[.slice A n c], .slice Ai ni ci, .int .i64 most, .int .i64 T] w (RetVr (vmOf (runM x ins most T (newM x))) w) := by
  have hx0 := image_pos hgood
  have hz0 : codeSz (x[0]'hx0) = true := sizedB_mem (goodI_iff.1 hgood).1 _ (List.getElem_mem hx0)
  have hn0 : 0 < n := by have := h.lenEq; omega
  go_enter Tryz.func23, Tryz.ntmps23
  go_upto_region 1 with fail
  obtain ⟨W, hW⟩ : ∃ W, W = (w.alloc (.cells #[.slice A n c] 35)).alloc (.cells #[.slice none 0 0, .slice none 0 0, .int .i64 0, .int .i64 0, .int .i64 0, .int .i64 0, .slice none 0 0] 30) := ⟨_, rfl⟩
  have hbW : Below w.heap.size w W := by rw [hW]; exact belA
  have hI : W.cell? ⟨w.heap.size, 0, none⟩ = some (.slice A n c) := by rw [hW]; simp [go_sem]
  have hRb : W.heap[w.heap.size + 1]? = some (.cells #[.slice none 0 0, .slice none 0 0, .int .i64 0, .int .i64 0, .int .i64 0, .int .i64 0, .slice none 0 0] 30) := by rw [hW]; exact alloc_new' (by simp)
  have hzW : W.heap.size = w.heap.size + 2 := by rw [hW]; simp
  rw [← hW]
  clear hW
  obtain ⟨R, hR⟩ : ∃ R, w.heap.size + 1 = R := ⟨_, rfl⟩
  rw [hR] at hRb ⊢
  have hRw : w.heap.size < R := by omega
  have hRW : R < W.heap.size := by omega
  clear hR hzW
  have hzW := hbW.size
  obtain ⟨w1, hw1⟩ : ∃ w1, w1 = W := ⟨_, rfl⟩
  rw [← hw1] at hbW hI hRb hRW hzW ⊢
  clear hw1
  have hbw1 := hbW
  have hI1 := hI
  have hR1 := hRb
  have hR1l := blk_lt hR1
  have hc := fun o => cell_of_row w1 R o _ _ _ hR1
  have q0 := hc 0
  have q1 := hc 1
  have q2 := hc 2
  have q3 := hc 3
  have q4 := hc 4
  have q5 := hc 5
  have q6 := hc 6
  have qf := blk_frozen hR1
  clear hRb hI hc
  go_region_held3 (fun V' => V'.cell? ⟨w.heap.size, 0, none⟩ = some (.slice A n c)) (exact below_cell (show Below w1.heap.size w1 _ by exact beloA) hI1)
    (first | (go_at_call 38; ((with_reducible refine (specL8New _ 0 w.heap.size A n c x (h.below (show Below w.heap.size w _ by exact beloA) (Nat.le_refl _)) (by first | omega | (simp; done) | (simp; omega)) hn0 hz0).mono ?_); rintro e w5 ⟨A0, n0, c0, F, rfl, hoF, hF, hb5⟩; have bb : Below w1.heap.size w1 w5 := (by exact beloA); have z5 := bb.size)))
  obtain ⟨W6, hW6⟩ : ∃ W6, W6 = w5.alloc (.cells #[.slice A n c, .slice Ai ni ci, .int .i64 most, .slice A0 n0 c0, .slice none 0 0, .int .i64 0, .int .i64 0, .int .i64 0, .int .i64 1, .slice none 0 0] 63) := ⟨_, rfl⟩
  have hb6 : Below w1.heap.size w1 W6 := below_tr bb (by rw [hW6]; exact Below.alloc (Below.refl _ _) z5 _)
  have hX6 : W6.heap[w5.heap.size]? = some (.cells #[.slice A n c, .slice Ai ni ci, .int .i64 most, .slice A0 n0 c0, .slice none 0 0, .int .i64 0, .int .i64 0, .int .i64 0, .int .i64 1, .slice none 0 0] 63) := by rw [hW6]; exact alloc_new' (w := w5) rfl
  have hoF6 : OwnSl FrameR W6 74 F (.slice A0 n0 c0) [newFr (x[0]'hx0).2.1.toNat (x[0]'hx0).2.2.1.length] := by rw [hW6]; exact hoF.below (Below.alloc (Below.refl _ _) (Nat.le_refl _) _)
  have hFX : ∀ k, k ∈ F → k < w5.heap.size := hoF.lt
  rw [← hW6]
  obtain ⟨X, hX⟩ : ∃ X, w5.heap.size = X := ⟨_, rfl⟩
  rw [hX] at hX6 hFX z5 ⊢
  have HM0 := Lib.hid (show MM { B := w1.heap.size, M := X, T := 63, ax := A, nx := n, cx := c, x := x, ai := Ai, ni := ni, ci := ci, ins := ins, most := most, w0 := w1, D := [] } W6 (.slice A0 n0 c0) (newM x) from
    mm_new hX6 (by
      have e : (newM x).fs.reverse = [newFr (x[0]'hx0).2.1.toNat (x[0]'hx0).2.2.1.length] := by
        show [newFrm x 0 0 [] false] = _
        unfold newFrm newFr
        rw [show codeD x 0 = x[0]'hx0 from codeD_at (k := 0) hx0]
        rfl
      rw [e]; exact hoF6) (fun k hk => ⟨hF k hk, fun e => by have e' : k = X := e; have := hFX k hk; omega⟩) z5 ((h.next hbw1).below hb6 (Nat.le_refl _)) ((hi.next hbw1).below hb6 (Nat.le_refl _)) hb6 hb6.size rfl)
  have HOK0 := Lib.hid (newM_ok (ins := ins) hgood)
  clear hW6 hb6 hX6 hoF6 hoF hF hFX hX bb hb5
  go_wp2_with fail
  go_loopw [10] (fun v wr => ∃ (t N : Nat) (s : MS) (vf : Value), t ≤ T ∧ v = .int .i64 ((T - t : Nat) : Int) ∧ Hid (MM { B := w1.heap.size, M := X, T := 63, ax := A, nx := n, cx := c, x := x, ai := Ai, ni := ni, ci := ci, ins := ins, most := most, w0 := w1, D := [] } wr vf s) ∧ Hid (MOk x ins N s) ∧ N + t ≤ 1000000 ∧ Hid (runM x ins most T (newM x) = runM x ins most t s)) (fun v _ => T - (intOf v).toNat)
  case atStart => exact ⟨T, 1, newM x, _, Nat.le_refl _, by simp, HM0, HOK0, by omega, Lib.hid rfl⟩
  case round =>
    obtain ⟨t, N, s, vf, htT, rfl, HMr, HOK, hNt, HRM⟩ := hrel
    obtain ⟨vt, vn, mv⟩ := HMr.out.mv
    have m3 := mv.m3
    have m4 := mv.m4
    have m5 := mv.m5
    have m6 := mv.m6
    have m7 := mv.m7
    have m8 := mv.m8
    have m9 := mv.m9
    have hMl := mv.lt
    have hbr : Below w1.heap.size w1 wr := HMr.out.oldB
    clear mv
    rcases t with _ | u
    · have hT0 : ¬ ((T - 0 : Nat) : Int) < (T : Int) := by omega
      obtain ⟨F0, F1, F6, o0, o1, o6, hnd, hlow⟩ := HMr.out.res m4 m9
      obtain ⟨A0', n0', c0', rfl, hl0⟩ := o0.form
      obtain ⟨A1', n1', c1', rfl, hl1⟩ := o1.form
      obtain ⟨A6', n6', c6', rfl, hl6⟩ := o6.form
      clear hl0 hl1 hl6
      have hRr : wr.heap[R]? = w1.heap[R]? := hbr.block R hR1l
      have hRl : R < wr.heap.size := by have := hbr.size; omega
      have r0 := (World.cell?_of_block (a := ⟨R, 0, none⟩) hRr).trans q0
      have r1 := (World.cell?_of_block (a := ⟨R, 1, none⟩) hRr).trans q1
      have r2 := (World.cell?_of_block (a := ⟨R, 2, none⟩) hRr).trans q2
      have r3 := (World.cell?_of_block (a := ⟨R, 3, none⟩) hRr).trans q3
      have r4 := (World.cell?_of_block (a := ⟨R, 4, none⟩) hRr).trans q4
      have r5 := (World.cell?_of_block (a := ⟨R, 5, none⟩) hRr).trans q5
      have r6 := (World.cell?_of_block (a := ⟨R, 6, none⟩) hRr).trans q6
      have rf := fun o => (World.frozen?_of_block (a := ⟨R, o, none⟩) hRr).trans (qf o)
      have HO := Lib.hid (And.intro o0 (And.intro o1 o6))
      have HRR := Lib.hid (show vmOf (runM x ins most T (newM x)) = vmOf s from congrArg vmOf (HRM.out))
      clear o0 o1 o6 q0 q1 q2 q3 q4 q5 q6 hRr
      go_wp2_with fail
      refine bodyPost_ret (v := .agg #[.slice A0' n0' c0', .slice A1' n1' c1', .int .i64 s.used, .int .i64 s.code, .int .i64 s.val, .int .i64 s.made, .slice A6' n6' c6']) (by simp [results, Tryz.results23, go_sem, r0, r1, r2, r3, r4, r5, r6, rf, hRl]) rfl ?_
      rw [HRR.out]
      have hfr : Fr [R] wr (((((((wr.setCell ⟨R, 0, none⟩ (.slice A0' n0' c0')).setCell ⟨R, 1, none⟩ (.slice A1' n1' c1')).setCell ⟨R, 2, none⟩ (.int .i64 s.used)).setCell ⟨R, 3, none⟩ (.int .i64 s.code)).setCell ⟨R, 4, none⟩ (.int .i64 s.val)).setCell ⟨R, 5, none⟩ (.int .i64 s.made)).setCell ⟨R, 6, none⟩ (.slice A6' n6' c6')) := by exact frcA
      have hlw : ∀ k, k ∈ F0 ++ (F1 ++ F6) → w1.heap.size ≤ k := hlow
      have hbwr : Below w.heap.size w wr := below_tr hbw1 (hbr.mono (by omega))
      obtain ⟨o0, o1, o6⟩ := HO.out
      exact ⟨A0', n0', c0', A1', n1', c1', A6', n6', c6', rfl, (o0.fr hfr (fun k hk hx => by have := hlw k (List.mem_append_left _ hk); have := List.mem_singleton.1 hx; omega)).sl, (o1.fr hfr (fun k hk hx => by have := hlw k (List.mem_append_right _ (List.mem_append_left _ hk)); have := List.mem_singleton.1 hx; omega)).sl, (o6.fr hfr (fun k hk hx => by have := hlw k (List.mem_append_right _ (List.mem_append_right _ hk)); have := List.mem_singleton.1 hx; omega)).sl, by exact beloA⟩
    · have hT1 : ((T - (u + 1) : Nat) : Int) < (T : Int) := by omega
      have hT2 : ((T - (u + 1) : Nat) : Int) + 1 = ((T - u : Nat) : Int) := by omega
      by_cases hc : s.code = 0
      · obtain ⟨f, rest, RR⟩ := HOK.out.rdy (most := most) hgood hins (by omega) (by omega) hc
        rw [hc] at m6
        have HC := Lib.hid hc
        clear hc
        go_wp2_with fail
        refine (specStep { B := w1.heap.size, M := X, T := 63, ax := A, nx := n, cx := c, x := x, ai := Ai, ni := ni, ci := ci, ins := ins, most := most, w0 := w1, D := [] } wr vf s f rest N HMr.out RR).mono ?_
        rintro e w8 ⟨rfl, vf8, h8⟩
        have H8 := Lib.hid h8
        have HOK8 := Lib.hid (step_ok hgood hins (by omega) (show most ≤ 12 by omega) HOK.out HC.out)
        have HRM8 := Lib.hid (show runM x ins most T (newM x) = runM x ins most u (stepF x ins most s) from HRM.out.trans (by conv => lhs; unfold runM; rw [if_pos HC.out]))
        clear h8 m3 m4 m5 m6 m7 m8 m9
        go_wp2_with fail
        go_roundw
        case rel => exact ⟨u, N + 1, _, vf8, by omega, by first | rfl | (rw [hT2]) | go_num, H8, HOK8, by omega, HRM8⟩
        case measure => simp [intOf]; omega
      · have hc' : ¬ s.code = 0 := hc
        obtain ⟨F0, F1, F6, o0, o1, o6, hnd, hlow⟩ := HMr.out.res m4 m9
        obtain ⟨A0', n0', c0', rfl, hl0⟩ := o0.form
        obtain ⟨A1', n1', c1', rfl, hl1⟩ := o1.form
        obtain ⟨A6', n6', c6', rfl, hl6⟩ := o6.form
        clear hl0 hl1 hl6
        have hRr : wr.heap[R]? = w1.heap[R]? := hbr.block R hR1l
        have hRl : R < wr.heap.size := by have := hbr.size; omega
        have r0 := (World.cell?_of_block (a := ⟨R, 0, none⟩) hRr).trans q0
        have r1 := (World.cell?_of_block (a := ⟨R, 1, none⟩) hRr).trans q1
        have r2 := (World.cell?_of_block (a := ⟨R, 2, none⟩) hRr).trans q2
        have r3 := (World.cell?_of_block (a := ⟨R, 3, none⟩) hRr).trans q3
        have r4 := (World.cell?_of_block (a := ⟨R, 4, none⟩) hRr).trans q4
        have r5 := (World.cell?_of_block (a := ⟨R, 5, none⟩) hRr).trans q5
        have r6 := (World.cell?_of_block (a := ⟨R, 6, none⟩) hRr).trans q6
        have rf := fun o => (World.frozen?_of_block (a := ⟨R, o, none⟩) hRr).trans (qf o)
        have HO := Lib.hid (And.intro o0 (And.intro o1 o6))
        have HRR := Lib.hid (show vmOf (runM x ins most T (newM x)) = vmOf s from congrArg vmOf (HRM.out.trans (runM_stop hc' _)))
        clear o0 o1 o6 q0 q1 q2 q3 q4 q5 q6 hRr
        go_wp2_with fail
        refine bodyPost_ret (v := .agg #[.slice A0' n0' c0', .slice A1' n1' c1', .int .i64 s.used, .int .i64 s.code, .int .i64 s.val, .int .i64 s.made, .slice A6' n6' c6']) (by simp [results, Tryz.results23, go_sem, r0, r1, r2, r3, r4, r5, r6, rf, hRl]) rfl ?_
        rw [HRR.out]
        have hfr : Fr [R] wr (((((((wr.setCell ⟨R, 0, none⟩ (.slice A0' n0' c0')).setCell ⟨R, 1, none⟩ (.slice A1' n1' c1')).setCell ⟨R, 2, none⟩ (.int .i64 s.used)).setCell ⟨R, 3, none⟩ (.int .i64 s.code)).setCell ⟨R, 4, none⟩ (.int .i64 s.val)).setCell ⟨R, 5, none⟩ (.int .i64 s.made)).setCell ⟨R, 6, none⟩ (.slice A6' n6' c6')) := by exact frcA
        have hlw : ∀ k, k ∈ F0 ++ (F1 ++ F6) → w1.heap.size ≤ k := hlow
        have hbwr : Below w.heap.size w wr := below_tr hbw1 (hbr.mono (by omega))
        obtain ⟨o0, o1, o6⟩ := HO.out
        exact ⟨A0', n0', c0', A1', n1', c1', A6', n6', c6', rfl, (o0.fr hfr (fun k hk hx => by have := hlw k (List.mem_append_left _ hk); have := List.mem_singleton.1 hx; omega)).sl, (o1.fr hfr (fun k hk hx => by have := hlw k (List.mem_append_right _ (List.mem_append_left _ hk)); have := List.mem_singleton.1 hx; omega)).sl, (o6.fr hfr (fun k hk hx => by have := hlw k (List.mem_append_right _ (List.mem_append_right _ hk)); have := List.mem_singleton.1 hx; omega)).sl, by exact beloA⟩
end Go.Proofs.YtgdeclmciflmpaaGreat

/- The reference's RunVm: walk. -/
set_option linter.unusedVariables false
set_option linter.unusedSimpArgs false
set_option maxRecDepth 100000
namespace Go.Proofs.YtgdeclmciflmpaaGreat
open Go.RowKit
attribute [local irreducible] wpList
set_option maxHeartbeats 16000000 in
theorem specRunVm1 (w : World) (A : Option Addr) (n c : Nat) (x : List Code) (h : Sl CodeR w 0 w.heap.size A n c x) (Ai : Option Addr) (ni ci : Nat) (ins : List Int) (hi : Sl intR w 0 w.heap.size Ai ni ci ins) (most ticks : Int) (b : Bool) (hb : (askB x ins most && inB ticks 0 60000) = b) :
    Calls Tryz.prog 6 #[.agg #[.slice A n c], .slice Ai ni ci, .int .i64 most, .int .i64 ticks] w (RetVmS (runR x ins most ticks) b w) := by
  obtain ⟨b1, hb1⟩ : ∃ b, askB x ins most = b := ⟨_, rfl⟩
  obtain ⟨b2, hb2⟩ : ∃ b, inB ticks 0 60000 = b := ⟨_, rfl⟩
  have B1 := Lib.hid hb1
  have B2 := Lib.hid hb2
  rw [hb1, hb2] at hb
  have HB := Lib.hid hb
  have HR0 := Lib.hid (show (b1 && b2) = false → runR x ins most ticks = vm0 from fun h => by
    unfold runR
    rw [if_neg (by rw [hb1, hb2]; intro h2; rw [h2.1, h2.2] at h; cases h)])
  clear hb1 hb2 hb
  go_enter Tryz.func6, Tryz.ntmps6
  go_wp2_with fail
  obtain ⟨W, hW⟩ : ∃ W, W = (w.alloc (.cells #[.slice A n c] 35)).alloc (.cells #[.slice none 0 0, .slice none 0 0, .int .i64 0, .int .i64 0, .int .i64 0, .int .i64 0, .slice none 0 0] 30) := ⟨_, rfl⟩
  have hbW : Below w.heap.size w W := by rw [hW]; exact belA
  have hI : W.cell? ⟨w.heap.size, 0, none⟩ = some (.slice A n c) := by rw [hW]; simp [go_sem]
  have hRb : W.heap[w.heap.size + 1]? = some (.cells #[.slice none 0 0, .slice none 0 0, .int .i64 0, .int .i64 0, .int .i64 0, .int .i64 0, .slice none 0 0] 30) := by rw [hW]; exact alloc_new' (by simp)
  have hzW : W.heap.size = w.heap.size + 2 := by rw [hW]; simp
  rw [← hW]
  clear hW
  obtain ⟨R, hR⟩ : ∃ R, w.heap.size + 1 = R := ⟨_, rfl⟩
  rw [hR] at hRb ⊢
  have hRw : w.heap.size < R := by omega
  have hRW : R < W.heap.size := by omega
  clear hR hzW
  have hzW := hbW.size
  refine (specL8Asked W A n c x (h.next hbW) Ai ni ci ins (hi.next hbW) most).mono ?_
  rintro e w1 ⟨rfl, hx1⟩
  rw [B1.out]
  have hbw1 : Below w.heap.size w w1 := below_tr hbW (hx1.mono hzW)
  have hz1 := hx1.size
  have hI1 := below_cell hx1 hI
  have hR1 : w1.heap[R]? = some (.cells #[.slice none 0 0, .slice none 0 0, .int .i64 0, .int .i64 0, .int .i64 0, .int .i64 0, .slice none 0 0] 30) := below_at hx1 hRW hRb
  have hR1l := blk_lt hR1
  have hc := fun o => cell_of_row w1 R o _ _ _ hR1
  have q0 := hc 0
  have q1 := hc 1
  have q2 := hc 2
  have q3 := hc 3
  have q4 := hc 4
  have q5 := hc 5
  have q6 := hc 6
  have qf := blk_frozen hR1
  clear hRb hI hx1 hc
  cases b1
  · have HR9 := Lib.hid (HR0.out rfl)
    have hbf := Lib.hid (show b = false by rw [← HB.out]; rfl)
    go_wp2_with fail
    refine bodyPost_ret (v := .tuple #[.agg #[.slice none 0 0, .slice none 0 0, .int .i64 0, .int .i64 0, .int .i64 0, .int .i64 0, .slice none 0 0], .bool false]) (by simp [results, Tryz.results6, go_sem, q0, q1, q2, q3, q4, q5, q6, qf, hR1l]) rfl ?_
    (rw [HR9.out, hbf.out]; exact RetVO.toS <| RetVO.bad (by exact beloA))
  · go_wp2_with fail
    refine (specL1In w1 ticks 0 60000).mono ?_
    rintro e w2 ⟨rfl, rfl⟩
    rw [B2.out]
    cases b2
    · have HR9 := Lib.hid (HR0.out rfl)
      have hbf := Lib.hid (show b = false by rw [← HB.out]; rfl)
      go_wp2_with fail
      refine bodyPost_ret (v := .tuple #[.agg #[.slice none 0 0, .slice none 0 0, .int .i64 0, .int .i64 0, .int .i64 0, .int .i64 0, .slice none 0 0], .bool false]) (by simp [results, Tryz.results6, go_sem, q0, q1, q2, q3, q4, q5, q6, qf, hR1l]) rfl ?_
      (rw [HR9.out, hbf.out]; exact RetVO.toS <| RetVO.bad (by exact beloA))
    · have hbf := Lib.hid (show b = true by rw [← HB.out]; rfl)
      go_upto_region 3 with fail
      have HASK := Lib.hid B1.out
      have hgood : goodI x = true := by have := B1.out; unfold askB at this; simp only [Bool.and_eq_true] at this; exact this.1.1.1
      have hins : ins.all small = true := by have := B1.out; unfold askB at this; simp only [Bool.and_eq_true] at this; exact this.1.2
      have hmost := inB_iff.1 (show inB most 1 12 = true by have := B1.out; unfold askB at this; simp only [Bool.and_eq_true] at this; exact this.2)
      have htk := inB_iff.1 B2.out
      obtain ⟨T, hT⟩ := Int.eq_ofNat_of_zero_le htk.1
      have hT6 : T ≤ 60000 := by omega
      have HRR := Lib.hid (show runR x ins most ticks = vmOf (runM x ins most T (newM x)) from by
        unfold runR
        rw [if_pos ⟨HASK.out, B2.out⟩, hT]
        rfl)
      obtain ⟨N', hN', hok⟩ := runM_ok hgood hins (show most ≤ 12 by omega) T 1 (newM x) (by omega) (newM_ok hgood)
      obtain ⟨s, hs⟩ : ∃ s, runM x ins most T (newM x) = s := ⟨_, rfl⟩
      rw [hs] at hok
      have HSS := Lib.hid hs
      subst hT
      clear hs
      go_upto_region 3 with fail
      go_wp2_with fail
      refine (specL8Run w1 A n c x (h.next hbw1) Ai ni ci ins (hi.next hbw1) most T hgood hins (by omega) hT6).mono ?_
      rw [HSS.out]
      rintro e w2 ⟨A0, n0, c0, A1, n1, c1, A6, n6, c6, rfl, s0, s1, s6, b2⟩
      have z0 : n0 ≤ 12 := by have := s0.lenEq; have := hok.many; simp only [vmOf, List.length_reverse] at *; omega
      have z1 : n1 ≤ 1000000 := by have := s1.lenEq; have := hok.tr.1; simp only [vmOf] at *; omega
      have z6 : n6 ≤ 1000000 := by have := s6.lenEq; have := hok.notes; simp only [vmOf] at *; omega
      have zf : ∀ f, f ∈ (vmOf s).1 → (fPile f).length ≤ 1000000 ∧ f.2.2.2.2.1.length ≤ 1000000 ∧ f.2.2.2.2.2.1.length ≤ 1000000 := fun f hf => by
        have hf' : f ∈ s.fs := by simpa [vmOf] using hf
        have h9 := hok.lens f hf'
        have h8 := frW hgood h9.1
        have := h8.vl
        have := h8.fl
        have := h8.sl
        have := h9.2
        omega
      have zr := b2.size
      have hbw2 : Below w.heap.size w w2 := below_tr hbw1 (b2.mono (by omega))
      go_wp2_with fail
      refine (specL8Own w2 A0 n0 c0 _ s0 A1 n1 c1 _ s1 _ _ _ _ A6 n6 c6 _ s6 (by omega) zf z1 z6).mono ?_
      rintro e w3 ⟨B0, m0, d0, B1', m1, d1, B6, m6, d6, rfl, g0, g1, g6, b3⟩
      have z3 := b3.size
      have b13 : Below w1.heap.size w1 w3 := below_tr b2 (b3.mono zr)
      have p0 := below_cell b13 q0
      have p1 := below_cell b13 q1
      have p2 := below_cell b13 q2
      have p3 := below_cell b13 q3
      have p4 := below_cell b13 q4
      have p5 := below_cell b13 q5
      have p6 := below_cell b13 q6
      have pf := fun o => below_frozen (p := ⟨R, o, none⟩) b13 hR1l (qf o)
      have hRl3 : R < w3.heap.size := by omega
      have hbw3 : Below w.heap.size w w3 := below_tr hbw1 (b13.mono (by omega))
      have G0 := Lib.hid g0
      have G1 := Lib.hid g1
      have G6 := Lib.hid g6
      clear q0 q1 q2 q3 q4 q5 q6 qf g0 g1 g6 s0 s1 s6 zf b2 b3
      obtain ⟨a2, ha2⟩ : ∃ a, (vmOf s).2.2.1 = a := ⟨_, rfl⟩
      obtain ⟨a3, ha3⟩ : ∃ a, (vmOf s).2.2.2.1 = a := ⟨_, rfl⟩
      obtain ⟨a4, ha4⟩ : ∃ a, (vmOf s).2.2.2.2.1 = a := ⟨_, rfl⟩
      obtain ⟨a5, ha5⟩ : ∃ a, (vmOf s).2.2.2.2.2.1 = a := ⟨_, rfl⟩
      have HA2 := Lib.hid ha2
      have HA3 := Lib.hid ha3
      have HA4 := Lib.hid ha4
      have HA5 := Lib.hid ha5
      simp only [ha2, ha3, ha4, ha5]
      clear ha2 ha3 ha4 ha5
      go_wp2_with fail
      refine bodyPost_ret (v := .tuple #[.agg #[.slice B0 m0 d0, .slice B1' m1 d1, .int .i64 a2, .int .i64 a3, .int .i64 a4, .int .i64 a5, .slice B6 m6 d6], .bool true]) (by simp [results, Tryz.results6, go_sem, p0, p1, p2, p3, p4, p5, p6, pf, hRl3]) rfl ?_
      have hfR : Fr [R] w3 (((((((w3.setCell ⟨R, 0, none⟩ (.slice B0 m0 d0)).setCell ⟨R, 1, none⟩ (.slice B1' m1 d1)).setCell ⟨R, 2, none⟩ (.int .i64 a2)).setCell ⟨R, 3, none⟩ (.int .i64 a3)).setCell ⟨R, 4, none⟩ (.int .i64 a4)).setCell ⟨R, 5, none⟩ (.int .i64 a5)).setCell ⟨R, 6, none⟩ (.slice B6 m6 d6)) := by exact frcA
      have hRw2 : R < w2.heap.size := by omega
      have hzf := hfR.size
      have hk : ∀ k, k ∈ [R] → k < w2.heap.size ∨ w3.heap.size ≤ k := fun k hk => Or.inl (by rw [List.mem_singleton.1 hk]; exact hRw2)
      have s0 := (G0.out.fr hfR (Nat.le_refl _) hk).more (Nat.zero_le _) hzf
      have s1 := (G1.out.fr hfR (Nat.le_refl _) hk).more (Nat.zero_le _) hzf
      have s6 := (G6.out.fr hfR (Nat.le_refl _) hk).more (Nat.zero_le _) hzf
      rw [HRR.out, HSS.out, hbf.out]
      refine ⟨B0, m0, d0, B1', m1, d1, B6, m6, d6, ?_, s0, s1, s6, by exact beloA⟩
      rw [HA2.out, HA3.out, HA4.out, HA5.out]
/-- How much a run's result weighs. -/
theorem runR_sz (x : Image) (ins : List Int) (most ticks : Int) : mszLFrame (runR x ins most ticks).1 + (runR x ins most ticks).2.1.length + (runR x ins most ticks).2.2.2.2.2.2.length ≤ 1000000 := by
  unfold runR
  split
  · rename_i hq
    have hgood : goodI x = true := by have := hq.1; unfold askB at this; simp only [Bool.and_eq_true] at this; exact this.1.1.1
    have hins : ins.all small = true := by have := hq.1; unfold askB at this; simp only [Bool.and_eq_true] at this; exact this.1.2
    have hmost := inB_iff.1 (show inB most 1 12 = true by have := hq.1; unfold askB at this; simp only [Bool.and_eq_true] at this; exact this.2)
    have htk := inB_iff.1 hq.2
    obtain ⟨N', hN', hok⟩ := runM_ok (most := most) hgood hins (by omega) ticks.toNat 1 (newM x) (by omega) (newM_ok hgood)
    obtain ⟨s, hs⟩ : ∃ s, runM x ins most ticks.toNat (newM x) = s := ⟨_, rfl⟩
    rw [hs] at hok ⊢
    have h1 := hok.many
    have h2 := hok.tr.1
    have h3 := hok.notes
    have h4 := sum_le50 mszFrame s.fs.reverse fun f hf => by
      have hf' : f ∈ s.fs := by simpa using hf
      have h9 := hok.lens f hf'
      have h8 := frW hgood h9.1
      have := h8.vl
      have := h8.fl
      have := h8.sl
      have h7 := h9.2
      unfold fPile at h7
      unfold mszFrame
      omega
    rw [List.length_reverse] at h4
    show s.fs.reverse.length + (s.fs.reverse.map mszFrame).sum + s.tr.length + s.notes.length ≤ 1000000
    rw [List.length_reverse]
    omega
  · simp [vm0, mszLFrame]
theorem implRunVmC (w : World) (A : Option Addr) (n c : Nat) (x : List Code) (Ai : Option Addr) (ni ci : Nat) (ins : List Int) (most ticks : Int) (h : Sl CodeR w 0 w.heap.size A n c x) (_ : mszLCode x ≤ 1048576) (hi : Sl intR w 0 w.heap.size Ai ni ci ins) (_ : I64 most) (_ : I64 ticks) (s0 : List Frame) (s1 : List Int) (x2 x3 x4 x5 : Int) (s6 : List Note) (hz : runR x ins most ticks = (s0, s1, x2, x3, x4, x5, s6)) (b : Bool) (hb : (askB x ins most && inB ticks 0 60000) = b) :
    Calls Tryz.prog 9 #[.agg #[.slice A n c], .slice Ai ni ci, .int .i64 most, .int .i64 ticks] w (RetVO s0 s1 x2 x3 x4 x5 s6 b w) := by
  have h1 := implRunVm1 w A n c x h Ai ni ci ins hi most ticks b hb
  unfold RetVm at h1
  rw [hz] at h1
  exact h1
theorem specRunVmC (w : World) (A : Option Addr) (n c : Nat) (x : List Code) (Ai : Option Addr) (ni ci : Nat) (ins : List Int) (most ticks : Int) (h : Sl CodeR w 0 w.heap.size A n c x) (_ : mszLCode x ≤ 1048576) (hi : Sl intR w 0 w.heap.size Ai ni ci ins) (_ : I64 most) (_ : I64 ticks) (s0 : List Frame) (s1 : List Int) (x2 x3 x4 x5 : Int) (s6 : List Note) (hz : runR x ins most ticks = (s0, s1, x2, x3, x4, x5, s6)) (b : Bool) (hb : (askB x ins most && inB ticks 0 60000) = b) :
    Calls Tryz.prog 6 #[.agg #[.slice A n c], .slice Ai ni ci, .int .i64 most, .int .i64 ticks] w (RetVS s0 s1 x2 x3 x4 x5 s6 b w) := by
  have h1 := specRunVm1 w A n c x h Ai ni ci ins hi most ticks b hb
  unfold RetVmS at h1
  rw [hz] at h1
  exact h1
end Go.Proofs.YtgdeclmciflmpaaGreat
