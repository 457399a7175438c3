/- Heights of a code: the reference's walk. -/
import Derived.Test.YtgoinmdnpaknpaaGreatHeightI
set_option linter.unusedVariables false
set_option linter.unusedSimpArgs false
set_option maxRecDepth 100000
namespace Go.Proofs.YtgoinmdnpaknpaaGreat
open Go.RowKit
set_option maxHeartbeats 16000000 in
theorem specL5Heights (w : World) (lo hi : Nat) (A : Option Addr) (n c : Nat) (x : List Code) (x0 x1 : Int) (A2 A3 A4 : Option Addr) (n2 c2 n3 c3 n4 c4 : Nat) (I : List Ins) (rows : List Row) (hx : Sl CodeR w lo hi A n c x) (h3 : Sl InsR w lo hi A3 n3 c3 I) (h4 : Sl RowR w lo hi A4 n4 c4 rows) (hh : hi ≤ w.heap.size)
    (hn1 : 1 ≤ n3) (hn2 : n3 ≤ 300) (hp : ∀ c, c ∈ x → 0 ≤ c.1 ∧ c.1 ≤ 2) (h7 : ∀ i, i ∈ I → i.1 = 7 → 0 ≤ i.2 ∧ i.2 < n) (hg : goesB I = true) (hr : rowsB rows n3 = true) :
    Calls Tryz.prog 55 #[.agg #[.slice A n c], .agg #[.int .i64 x0, .int .i64 x1, .slice A2 n2 c2, .slice A3 n3 c3, .slice A4 n4 c4]] w (RetHt (heightsF x I rows) w) := by
  obtain ⟨inf, hif, hz0, hz1, hz2⟩ := info_parts Tryz.infoInt
  have HIF := Lib.hid hif
  have HZ0 := Lib.hid hz0
  have HZ1 := Lib.hid hz1
  have HZ2 := Lib.hid hz2
  have HL3 := Lib.hid h3.lenEq
  have HL4 := Lib.hid h4.lenEq
  have HP := Lib.hid hp
  have H7 := Lib.hid h7
  have HG := Lib.hid hg
  have HR := Lib.hid hr
  have b4 := h4.lenLe
  clear hif hz0 hz1 hz2 hp h7 hg hr
  go_enter Tryz.func55, Tryz.ntmps55
  go_upto_region 1 with (fail)
  obtain ⟨W, hW⟩ : ∃ W, W = (w.alloc (.cells #[.slice A n c] 24)).alloc (.cells #[.int .i64 x0, .int .i64 x1, .slice A2 n2 c2, .slice A3 n3 c3, .slice A4 n4 c4] 39) := ⟨_, rfl⟩
  have hbW : Below w.heap.size w W := by rw [hW]; exact belA
  have hzW : W.heap.size = w.heap.size + 2 := by rw [hW]; simp
  have kx := Lib.hid (show W.cell? ⟨w.heap.size, 0, none⟩ = some (.slice A n c) by rw [hW]; simp [go_sem])
  have k3 := Lib.hid (show W.cell? ⟨w.heap.size + 1, 3, none⟩ = some (.slice A3 n3 c3) by rw [hW]; simp [go_sem])
  have k4 := Lib.hid (show W.cell? ⟨w.heap.size + 1, 4, none⟩ = some (.slice A4 n4 c4) by rw [hW]; simp [go_sem])
  rw [← hW]
  clear hW
  replace hx := hx.below hbW hh
  replace h3 := h3.below hbW hh
  replace h4 := h4.below hbW hh
  have hhW : hi ≤ W.heap.size := by omega
  have hzW1 : w.heap.size + 1 < W.heap.size := by omega
  clear hzW
  have kc3w := k3.out
  go_wp2_with (at_make; refine wpList_make_full _ rfl _ _ 35 rfl W.heap.size 3 inf (.int .i64 0) 1 Tryz.underlying35 HIF.out HZ0.out HZ1.out _ _ _ _ n3 rfl rfl rfl rfl (by rw [HZ2.out]; omega) (by unfold maxLen; omega) (Nat.le_refl _) ?_)
  intro w0 hown hgr
  have hb0 : Below W.heap.size W w0 := (Below.refl _ _).grown hgr (Nat.le_refl _) (fun k hk => by cases hk)
  obtain ⟨gh, hgh0⟩ : ∃ gh, gh = W.heap.size := ⟨_, rfl⟩
  rw [← hgh0]
  have hown0 : ∃ L, w0.ownsRow W.heap.size 3 1 (.slice (some ⟨gh, 0, none⟩) n3 n3) n3 L := ⟨_, by rw [hgh0]; exact hown⟩
  have hghW : W.heap.size ≤ gh := by omega
  have hne1 : ¬ gh = w.heap.size + 1 := by omega
  have hne2 : ¬ w.heap.size + 1 = gh := by omega
  obtain ⟨L0, hown0⟩ := hown0
  clear hown hgr hgh0 kc3w
  go_wp2_with fail
  go_loopw [24] (fun i wr => ∃ (k : Nat) (L : List Value), k ≤ n3 ∧ i = .int .i64 k ∧ wr.ownsRow W.heap.size 3 1 (.slice (some ⟨gh, 0, none⟩) n3 n3) n3 L ∧ L.take k = List.replicate k (.int .i64 (-1)) ∧ Below W.heap.size W wr) (fun i _ => n3 - (intOf i).toNat)
  case atStart => exact ⟨0, L0, Nat.zero_le _, rfl, hown0, by simp, hb0⟩
  case round =>
    clear hown0 hb0
    obtain ⟨k, L, hk, rfl, hown, ht0, hb⟩ := hrel
    have HT := Lib.hid ht0
    have hll := hown.1
    have HLL := Lib.hid hll
    clear ht0 hll
    by_cases hlt : k < n3
    · obtain ⟨u, hu⟩ : ∃ u, wr.cell? ⟨gh, k, none⟩ = some u := own_cell (World.ownsRow.mono hown (Nat.zero_le _)) (by rw [Nat.mul_one]; exact hlt)
      have hfz := hown.frozenAt k
      have hst := (hown.stored k (.int .i64 (-1))).1
      have hgl := (hown.lt gh rfl).1
      have HT2 := Lib.hid (show (L.set k (Value.int .i64 (-1))).take (k + 1) = List.replicate (k + 1) (.int .i64 (-1)) by
        have hl := HLL.out
        rw [List.take_succ_eq_append_getElem (by rw [List.length_set]; omega), List.getElem_set_self, List.take_set_of_le (Nat.le_refl _), HT.out]
        exact (List.replicate_append_replicate (n := k) (m := 1)).trans rfl)
      clear hown
      go_wp2_with fail
      go_roundw
      case rel => exact ⟨k + 1, _, by omega, by go_num, hst, HT2.out, hb.setCell hgl _⟩
      case measure => simp [intOf]; omega
    · have hL : L = (List.replicate n3 (-1)).map (Value.int .i64) := by
        have := HT.out
        rw [List.take_of_length_le (by have := HLL.out; omega)] at this
        rw [this, show k = n3 by omega]; simp
      have st0 : HtSt W W.heap.size gh n3 n3 (.slice none 0 0) (List.replicate n3 (-1)) [] wr := ⟨by unfold IntRow; rw [← hL]; simpa using hown, IntRow.nil_ _ _, fun q hq => (by cases hq), hb, hb.size⟩
      obtain ⟨v0, kc0, _⟩ := st0.at_ (p := 0) (by omega)
      have kf0 := st0.frz 0
      have k4w := (hb.cell (p := ⟨w.heap.size + 1, 4, none⟩) hzW1).trans k4.out
      have hzR : w.heap.size + 1 < wr.heap.size := by have := hb.size; omega
      clear HT HLL hL hown
      go_wp2_with fail
      obtain ⟨w1, hw1⟩ : ∃ w1, w1 = (wr.setCell ⟨gh, 0, none⟩ (.int .i64 0)).alloc (.cells #[.int .i64 0] 3) := ⟨_, rfl⟩
      have st2 : HtSt W W.heap.size gh n3 n3 (.slice (some ⟨wr.heap.size, 0, none⟩) 1 1) ((List.replicate n3 (-1)).set 0 0) [0] w1 := by
        have h1 := (st0.put 0 0).below (Below.alloc (Below.refl _ _) (Nat.le_refl _) (.cells #[.int .i64 0] 3))
        have hl := st0.lt
        rw [hw1]
        exact ⟨h1.hh, IntRow.new1 (w := wr.setCell ⟨gh, 0, none⟩ (.int .i64 0)) (by simp [World.setCell]) (st0.ge) 0, fun q hq => by (simp [Value.ownBlock] at hq; omega), h1.bl, h1.ge⟩
      have pd0 : PadSt x I rows 0 ((List.replicate n3 (-1)).set 0 0) [0] := by
        have := PadSt.start (x := x) (I := I) (rows := rows) (by rw [HL3.out]; exact hn1)
        rwa [HL3.out] at this
      rw [← hw1]
      clear hw1 st0 kc0 kf0 k4w hb
      go_loopw [8, 37] (fun t i wr => ∃ (tt : Value) (k : Nat) (hs os : List Int), k ≤ n4 ∧ i = .int .i64 k ∧ tt = t ∧ HtSt W W.heap.size gh n3 n3 tt hs os wr ∧ PadSt x I rows k hs os) (fun _ i _ => n4 - (intOf i).toNat)
      case atStart => exact ⟨_, 0, _, _, Nat.zero_le _, rfl, rfl, st2, pd0⟩
      case round =>
        clear st2 pd0
        obtain ⟨t, k, hs, os, hk, rfl, rfl, st, pd⟩ := hrel
        have hge := st.ge
        have hlo := st.lt
        by_cases hlt : k < n4
        · obtain ⟨b, o, y0, y1, y2, rfl, _, _, hl0, i0, i1, i2, d0, d1, d2⟩ := Row_at (h4.below st.bl hhW) hlt
          have hkl : k < rows.length := by have := HL4.out; omega
          have hpi := pad_in HR.out hkl hl0
          obtain ⟨p, hpe⟩ := Int.eq_ofNat_of_zero_le hpi.1
          simp only at hpe
          subst hpe
          have hpn : p < n3 := by have := hpi.2; simp only at this; omega
          obtain ⟨v, kv, hv0⟩ := st.at_ hpn
          have hfz := st.frz p
          have hol : os.length ≤ 300 := by have := pd.cnt; have := HL3.out; omega
          by_cases hneg : v < 0
          · have PD := Lib.hid (pd.new hkl hl0 (by show hv hs (p : Int) < 0; rw [hv0]; exact hneg) (by show (0 : Int) ≤ p; omega) (by show (p : Int).toNat < I.length; have := HL3.out; omega))
            have st3 := (st.below (Below.alloc (Below.refl _ _) (Nat.le_refl _) (.cells #[.int .i64 y0, .int .i64 y1, .int .i64 p] 71)))
            have st4 := st3.below (Below.alloc (Below.refl _ _) (Nat.le_refl _) (.cells #[.int .i64 p] 3))
            clear hl0 hpi st3 hv0 pd
            go_wp2_with (at_builtin; refine wpList_append_own_at _ rfl _ _ 35 rfl W.heap.size 3 inf (.int .i64 0) 1 8 Tryz.underlying35 HIF.out HZ0.out HZ1.out HZ2.out rfl (by decide) t os.length (os.map (Value.int .i64)) rfl st4.ho ⟨wr.heap.size + 1, 0, none⟩ 1 1 [.int .i64 p] rfl rfl (cell_new1 _ _ _ (by simp)) (by simp [Value.oneCell']) (by unfold maxLen; omega) (by omega) st4.ge ?_)
            intro t2 w2 hown hgr _ hat
            have st5 := st4.app hown hgr hat (by simp)
            have kb2 : w2.cell? ⟨wr.heap.size, 2, none⟩ = some (.int .i64 p) := by
              have h1 : ((wr.alloc (.cells #[.int .i64 y0, .int .i64 y1, .int .i64 p] 71)).alloc (.cells #[.int .i64 p] 3)).cell? ⟨wr.heap.size, 2, none⟩ = some (.int .i64 p) := by simp [go_sem]
              refine (World.cell?_of_block (hgr.block wr.heap.size (by simp; omega) (fun e => ?_))).trans h1
              have := (World.ownsRow.lt st.ho wr.heap.size e.symm).2
              omega
            obtain ⟨v5, kv5, _⟩ := st5.at_ hpn
            have kf5 := st5.frz p
            have st6 := st5.put p 0
            clear hown hgr hat st4 st st5
            go_wp2_with fail
            go_roundw
            case rel => exact ⟨_, k + 1, _, _, by omega, by go_num, rfl, st6, PD.out⟩
            case measure => simp [intOf]; omega
          · have PD := Lib.hid (pd.old hkl hl0 (by show 0 ≤ hv hs (p : Int); rw [hv0]; omega))
            have hsame : hs.set p 0 = hs := pd.same (p := (p : Int)) (by rw [hv0]; omega)
            have st4 := (st.put p 0).below (Below.alloc (Below.refl _ _) (Nat.le_refl _) (.cells #[.int .i64 y0, .int .i64 y1, .int .i64 p] 71))
            rw [hsame] at st4
            clear hl0 hpi hv0 pd hsame
            go_wp2_with fail
            go_roundw
            case rel => exact ⟨_, k + 1, hs, os, by omega, by go_num, rfl, st4, PD.out⟩
            case measure => simp [intOf]; omega
        · have rn := Lib.hid (show RunSt x I rows hs os from by
            have e : k = rows.length := by have := HL4.out; omega
            subst e
            exact pd.run)
          have hcnt : unmet hs + os.length ≤ n3 := by have := pd.cnt; have := HL3.out; omega
          clear pd
          go_wp2_with fail
          go_loopg [8, 11] (2 * unmet hs + os.length) (fun gk t i wr => ∃ (tt : Value) (kk : Nat) (hs os : List Int), tt = t ∧ i = .int .i64 kk ∧ kk ≤ os.length ∧ HtSt W W.heap.size gh n3 n3 tt hs os wr ∧ RunSt x I rows hs (os.drop kk) ∧ 2 * unmet hs + (os.length - kk) ≤ gk ∧ unmet hs + os.length ≤ n3)
          case atStart => exact ⟨_, 0, hs, os, rfl, rfl, Nat.zero_le _, st, rn.out, Nat.le_refl _, hcnt⟩
          case round =>
            clear st rn hcnt hlo hge
            obtain ⟨t, kk, hs, os, rfl, rfl, hkk, st, rn, hgk, hcnt⟩ := hrel
            have hge := st.ge
            have hlo := st.lt
            obtain ⟨At, m, ct, rfl, hm⟩ := st.ho.form
            have hm3 : m ≤ 300 := by omega
            by_cases hkm : kk < m
            rotate_left
            · have e : os.drop kk = [] := List.drop_eq_nil_of_le (by omega)
              rw [e] at rn
              have hsol := rn.sol
              have hret := Lib.hid (RetHt.yes (w := w) hsol (st.hh.mono (by omega)) (hbW.trans (st.bl.mono (by omega))))
              clear hsol rn e hm
              go_wp2_with fail
              go_ret2
              exact hret.out
            · have hkl : kk < os.length := by omega
              have HM := Lib.hid hm
              obtain ⟨go, rfl⟩ := st.ho.blk (by omega)
              have hcons := List.drop_eq_getElem_cons hkl
              have kp := st.ho.at_ (k := kk) hkl
              obtain ⟨p, hpd⟩ : ∃ p, os[kk] = p := ⟨_, rfl⟩
              rw [hpd] at kp hcons
              rw [hcons] at rn
              obtain ⟨hp1, hp2⟩ := hv_pos (rn.inv.pos p (List.mem_cons_self ..))
              obtain ⟨q, hqe⟩ := Int.eq_ofNat_of_zero_le hp1
              subst hqe
              have hqn : q < n3 := by have h1 := st.hh.len; have h2 : q < hs.length := hp2; omega
              obtain ⟨v, kv, hv0⟩ := st.at_ hqn
              have HV := Lib.hid hv0
              have hvb : 0 ≤ v ∧ v ≤ 40 := ⟨by rw [← hv0]; exact rn.inv.pos _ (List.mem_cons_self ..), by rw [← hv0]; exact rn.inv.le _⟩
              obtain ⟨hv1, hv2⟩ := hvb
              obtain ⟨bi, oi, o', k', rfl, _, _, hl0, i0, i1, f0, f1⟩ := Ins_at (h3.below st.bl hhW) hqn
              have hqI : q < I.length := by have := HL3.out; omega
              have HIQ := Lib.hid (ins_at hqI hl0)
              have h7' : o' = 7 → 0 ≤ k' ∧ k' < n := fun e => H7.out (o', k') (hl0 ▸ List.getElem_mem hqI) e
              have cx := (st.bl.cell (p := ⟨w.heap.size, 0, none⟩) (show w.heap.size < W.heap.size by omega)).trans kx.out
              have c3' := (st.bl.cell (p := ⟨w.heap.size + 1, 3, none⟩) (show w.heap.size + 1 < W.heap.size by omega)).trans k3.out
              have RN := Lib.hid rn
              have H7' := Lib.hid h7'
              have hxr := hx.below st.bl hhW
              clear hm hv0 hl0 rn h7' hp1 hp2 hcons hpd
              go_wp2_with fail
              obtain ⟨T, hT⟩ : ∃ T, takesF x (o', k') = T := ⟨_, rfl⟩
              obtain ⟨P, hP⟩ : ∃ P, putsF (o', k') = P := ⟨_, rfl⟩
              have hTb := takesF_bd HP.out (o', k')
              have hPb := putsF_bd (o', k')
              have hnone := Lib.hid (fun (e : nextF (o', k') (q : Int) = []) => high_none (x := x) e hTb.1)
              rw [hT] at hTb
              rw [hP] at hPb
              have HT := Lib.hid hT
              have HPU := Lib.hid hP
              obtain ⟨hT0, hT2⟩ := hTb
              obtain ⟨hP0, hP1⟩ := hPb
              clear hT hP
              go_region_held3 (fun V => V.cell? ⟨w.heap.size, 0, none⟩ = some (.slice A n c) ∧ V.cell? ⟨w.heap.size + 1, 3, none⟩ = some (.slice (some ⟨bi, oi, none⟩) n3 c3) ∧ V.cell? ⟨bi, oi + q * 2, none⟩ = some (.int .i64 o') ∧ V.cell? ⟨bi, oi + q * 2 + 1, none⟩ = some (.int .i64 k')) (first | exact ⟨cx, c3', f0, f1⟩ | exact ⟨cx2, c32, f02, f12⟩)
                ((go_at_call 83; ((with_reducible refine (specL5Takes _ lo hi A n c x o' k' (hxr.below (show Below wr.heap.size wr _ by exact belA) (by omega)) (by first | omega | (simp; done) | (simp; omega)) H7'.out).mono ?_); rintro e w2 ⟨rfl, hb2⟩; have b2 : Below wr.heap.size wr w2 := (by exact belA); have cx2 := below_cell b2 cx; have c32 := below_cell b2 c3'; have f02 := below_cell b2 f0; have f12 := below_cell b2 f1; rw [HT.out, HPU.out])))
              have kv2 := below_cell b2 kv
              have st2 := st.below b2
              have z2 := b2.size
              have rT : IntKind.i64.wrap (v - T) = v - T := IntWalk.i64_in _ (by omega)
              have rP : IntKind.i64.wrap (v - T + P) = v - T + P := IntWalk.i64_in _ (by omega)
              by_cases hfew : v < T
              · have hno := Lib.hid (RN.out.few (p := (q : Int)) (List.mem_cons_self ..) (by rw [HIQ.out, HT.out, HV.out]; exact hfew))
                go_wp2_with fail
                go_ret2
                exact RetHt.no hno.out (hbW.trans (st2.bl.mono (by omega)))
              have hH : highAt x I hs (q : Int) = v - T + P := by unfold highAt; rw [HIQ.out, HT.out, HPU.out, HV.out]
              have hgo := RN.out.go (p := (q : Int)) (List.mem_cons_self ..) (by rw [HIQ.out, HT.out, HV.out]; omega)
              rw [hH] at hgo
              have hnA : nextAt I (q : Int) = nextF (o', k') (q : Int) := by unfold nextAt; rw [HIQ.out]
              have HNA := Lib.hid hnA
              by_cases htall : 40 < v - T + P
              · have hno := Lib.hid (show heightsF x I rows = none from by
                  have hlen : 0 < (nextAt I (q : Int)).length := by
                    rcases Nat.eq_zero_or_pos (nextAt I (q : Int)).length with h0 | h0
                    · have h1 := hnone.out (by rw [← hnA]; exact List.eq_nil_of_length_eq_zero h0)
                      rw [HT.out, HPU.out] at h1
                      omega
                    · exact h0
                  exact hgo.tall hlen htall)
                clear hgo hH hnA
                go_wp2_with fail
                go_ret2
                exact RetHt.no hno.out (hbW.trans (st2.bl.mono (by omega)))
              have HGO := Lib.hid hgo
              have hc2 : 2 * unmet hs + (os.length - (kk + 1)) + 1 ≤ gk := by omega
              have hc3 : unmet hs + os.length ≤ n3 := by omega
              obtain ⟨H, hHd⟩ : ∃ H, H = v - T + P := ⟨_, rfl⟩
              have HHD := Lib.hid hHd
              have hH40 : H ≤ 40 := by omega
              have hH0 : 0 ≤ H := by omega
              have HIN := Lib.hid (fun s (h : s ∈ nextF (o', k') (q : Int)) => next_in HG.out hqI s (by rw [hnA]; exact h))
              clear hgo hH hgk hcnt kp hHd hnA
              go_wp2_with (go_at_call 82; ((with_reducible refine (specL5Next _ o' k' (q : Int) i1 (by omega)).mono ?_); rintro e w3 ⟨vN, rfl, rN, hb3⟩; obtain ⟨AN, mN, cN, rfl, hmN⟩ := rN.form; have hmN2 : mN ≤ 2 := (by rw [hmN]; exact nextF_len _ _); have HMN := Lib.hid hmN; clear hmN; have b3 : Below w2.heap.size w2 w3 := (by exact belA)))
              rw [← HHD.out]
              have st3 := st2.below b3
              have hz3 := b3.size
              have nx : NxSt gh (.slice (some ⟨go, 0, none⟩) m ct) (.slice AN mN cN) (nextF (o', k') (q : Int)) w3 := ⟨rN.mono (Nat.zero_le _), fun g hg e => by (have h1 := (World.ownsRow.lt rN g hg).1; have h2 := st2.lt; first | omega | (simp at h1; omega)), fun g hg e => by (have h1 := (World.ownsRow.lt rN g hg).1; have h2 := (World.ownsRow.lt st2.ho g e).2; first | omega | (simp at h1; omega))⟩
              clear rN hb3 hb2 st2 st kv kv2 f0 f1 f02 f12 cx cx2 c3' c32 rT rP
              go_loopw [8, 103] (fun t i wr => ∃ (tt : Value) (j : Nat) (hs os : List Int), j ≤ mN ∧ i = .int .i64 j ∧ tt = t ∧ HtSt W W.heap.size gh n3 n3 tt hs os wr ∧ NxSt gh tt (.slice AN mN cN) (nextF (o', k') (q : Int)) wr ∧ GoSt x I rows (q : Int) H j hs ((q : Int) :: os.drop (kk + 1)) ∧ kk < os.length ∧ 2 * unmet hs + (os.length - (kk + 1)) + 1 ≤ gk ∧ unmet hs + os.length ≤ n3) (fun _ i _ => mN - (intOf i).toNat)
              case atStart => exact ⟨_, 0, hs, os, Nat.zero_le _, rfl, rfl, st3, nx, by rw [HHD.out]; exact HGO.out, hkl, hc2, hc3⟩
              case round =>
                clear st3 nx HGO hc2 hc3 RN HV hkl hkk HM hkm hm3
                obtain ⟨t, j, hs, os, hj, rfl, rfl, st, nx, go_, hkl, hc2, hc3⟩ := hrel
                have hge := st.ge
                have hlo := st.lt
                by_cases hlt : j < mN
                · have hjl : j < (nextF (o', k') (q : Int)).length := by have := HMN.out; omega
                  obtain ⟨gn, hgn⟩ := nx.nr.blk (by omega)
                  subst hgn
                  have kn := nx.nr.at_ (k := j) hjl
                  have hsb := HIN.out _ (List.getElem_mem hjl)
                  have hjl2 : j < (nextAt I (q : Int)).length := by rw [HNA.out]; exact hjl
                  have hse : (nextAt I (q : Int))[j] = (nextF (o', k') (q : Int))[j] := by simp only [HNA.out]
                  obtain ⟨s, hs0⟩ : ∃ s, (nextF (o', k') (q : Int))[j] = s := ⟨_, rfl⟩
                  rw [hs0] at kn hsb hse
                  obtain ⟨sn, hsn⟩ := Int.eq_ofNat_of_zero_le hsb.1
                  subst hsn
                  have hsn3 : sn < n3 := by have := hsb.2; have := HL3.out; omega
                  obtain ⟨u, ku, hu0⟩ := st.at_ hsn3
                  have hfz := st.frz sn
                  have HU := Lib.hid hu0
                  have HSE := Lib.hid hse
                  have GO := Lib.hid go_
                  have hol : os.length ≤ 300 := by omega
                  clear hse hs0 hu0 go_ hsb
                  by_cases hu : 0 ≤ u
                  · by_cases huH : u = H
                    · subst huH
                      have GO2 := Lib.hid (GO.out.old hjl2 HSE.out HU.out)
                      have hun : ¬ u < 0 := by omega
                      go_wp2_with fail
                      go_roundw
                      case rel => exact ⟨_, j + 1, hs, os, by omega, by go_num, rfl, st.below (by exact belA), nx.below (by exact belA), GO2.out, hkl, hc2, hc3⟩
                      case measure => simp [intOf]; omega
                    · have hno := Lib.hid (GO.out.apart hjl2 HSE.out (by rw [HU.out]; exact hu) (by rw [HU.out]; exact huH))
                      have hbe : (u == H) = false := by simpa using huH
                      have hbn : (u != H) = true := by simpa using huH
                      go_wp2_with fail
                      go_ret2
                      exact RetHt.no hno.out (hbW.trans ((st.below (show Below wr.heap.size wr _ by exact belA)).bl.mono (by omega)))
                  · have hun : u < 0 := by omega
                    have G2 := GO.out.new hjl2 HSE.out (by rw [HU.out]; exact hun) (by omega) (by omega) (by show (sn : Int).toNat < I.length; have := HL3.out; omega)
                    have hdr : (q : Int) :: os.drop (kk + 1) ++ [(sn : Int)] = (q : Int) :: (os ++ [(sn : Int)]).drop (kk + 1) := by rw [List.drop_append_of_le_length (by omega)]; rfl
                    have GO2 := Lib.hid G2.1
                    rw [hdr] at GO2
                    have hcn := G2.2
                    have st4 := st.below (Below.alloc (Below.refl _ _) (Nat.le_refl _) (.cells #[.int .i64 sn] 3))
                    have nx4 := nx.below (Below.alloc (Below.refl _ _) (Nat.le_refl _) (.cells #[.int .i64 sn] 3))
                    have hkl' : kk < (os ++ [(sn : Int)]).length := by simp only [List.length_append, List.length_cons, List.length_nil]; omega
                    have hcn2 : 2 * unmet (hs.set ((sn : Int).toNat) H) + ((os ++ [(sn : Int)]).length - (kk + 1)) + 1 ≤ gk := by simp only [List.length_append, List.length_cons, List.length_nil]; omega
                    have hcn3 : unmet (hs.set ((sn : Int).toNat) H) + (os ++ [(sn : Int)]).length ≤ n3 := by simp only [List.length_append, List.length_cons, List.length_nil]; omega
                    clear G2 hcn GO hdr
                    go_wp2_with (at_builtin; refine wpList_append_own_at _ rfl _ _ 35 rfl W.heap.size 3 inf (.int .i64 0) 1 8 Tryz.underlying35 HIF.out HZ0.out HZ1.out HZ2.out rfl (by decide) t os.length (os.map (Value.int .i64)) rfl st4.ho ⟨wr.heap.size, 0, none⟩ 1 1 [.int .i64 sn] rfl rfl (cell_new1 _ _ _ rfl) (by simp [Value.oneCell']) (by unfold maxLen; omega) (by omega) st4.ge ?_)
                    intro t2 w4 hown hgr _ hat
                    have st5 := st4.app hown hgr hat (by simp)
                    have nx5 := nx4.app hgr hat (by simp)
                    obtain ⟨v5, kv5, _⟩ := st5.at_ hsn3
                    have kf5 := st5.frz sn
                    have st6 := st5.put sn H
                    have nx6 := nx5.put sn (.int .i64 H)
                    clear hown hgr hat st4 st nx4 nx st5 nx5
                    go_wp2_with fail
                    go_roundw
                    case rel => exact ⟨_, j + 1, _, _, by omega, by go_num, rfl, st6, nx6, GO2.out, hkl', hcn2, hcn3⟩
                    case measure => simp [intOf]; omega
                · have rn := Lib.hid (show RunSt x I rows hs (os.drop (kk + 1)) from by
                    have e : j = (nextAt I (q : Int)).length := by rw [HNA.out]; have := HMN.out; omega
                    rw [e] at go_
                    exact go_.fin (fun s hs => by rcases List.mem_cons.1 hs with h | h; exact Or.inr h; exact Or.inl h) (fun s hs => List.mem_cons_of_mem _ hs))
                  clear go_ nx
                  go_wp2_with fail
                  go_roundg (2 * unmet hs + (os.length - (kk + 1)))
                  case measure => omega
                  case rel => exact ⟨_, kk + 1, hs, os, rfl, by go_num, by omega, st, rn.out, Nat.le_refl _, hc3⟩
end Go.Proofs.YtgoinmdnpaknpaaGreat
