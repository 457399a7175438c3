/- A program is built anew and its expressions are folded in place: walk of the program. -/
import Derived.Test.YthdpkcmeepabjaaFoldBS
import Derived.Test.YthdpkcmeepabjaaMkPg
import Derived.Test.YthdpkcmeepabjaaSwap
set_option linter.unusedVariables false
set_option linter.unusedSimpArgs false
set_option maxRecDepth 100000
namespace Go.Proofs.Ythdpkcmeepabjaa
open Go.RowKit
theorem Fr.setNew {F : List Nat} {a w : World} (h : Fr F a w) {p : Addr} (hp : p.block ∈ F ∨ a.heap.size ≤ p.block) (u : Value) : Fr F a (w.setCell p u) :=
  ⟨h.os, h.tape, h.output, by have := h.size; simpa [World.setCell] using this, fun k hk hn => by
    rw [Below.heap_setCell _ _ _ _ (fun e => by rcases hp with hp | hp; exact hn (e ▸ hp); omega)]
    exact h.block k hk hn⟩
theorem set_mid2 {pre post : List Value} {p : Nat} (hp : pre.length = p) (a0 a1 a2 a3 a4 v : Value) : (pre ++ [a0, a1, a2, a3, a4] ++ post).set (p + 2) v = pre ++ [a0, a1, v, a3, a4] ++ post := by
  subst hp
  rw [List.append_assoc, List.append_assoc, List.set_append_right _ _ (by omega), Nat.add_sub_cancel_left]; rfl
theorem nodup_of {F G G' : List Nat} {m : Nat} (h1 : (F ++ G).Nodup) (h2 : G'.Nodup) (hl : ∀ k, k ∈ F → k < m) (hg : ∀ k, k ∈ G' → k ∈ G ∨ m ≤ k) : (F ++ G').Nodup := by
  rw [List.nodup_append] at h1 ⊢
  exact ⟨h1.1, h2, fun a ha b hb e => by subst e; rcases hg a hb with h | h; exact h1.2.2 a ha a h rfl; have := hl a ha; omega⟩
theorem nodup_of' {F F' G : List Nat} {m : Nat} (h1 : (F ++ G).Nodup) (h2 : F'.Nodup) (hl : ∀ k, k ∈ G → k < m) (hg : ∀ k, k ∈ F' → m ≤ k) : (F' ++ G).Nodup := by
  rw [List.nodup_append] at h1 ⊢
  exact ⟨h2, h1.2.1, fun a ha b hb e => by subst e; have := hl a hb; have := hg a ha; omega⟩
theorem own_len {α : Type} {R : Rp α} {w : World} {e : TypeId} {F : List Nat} {A : Option Addr} {n c : Nat} {l : List α} (h : OwnSl R w e F (.slice A n c) l) : l.length = n := by
  obtain ⟨_, _, _, h⟩ := h.row'; exact h
set_option maxHeartbeats 16000000 in
theorem implFoldProg2 (w : World) (lo hi : Nat) (A : Option Addr) (n c : Nat) (fs : List Func) (h : Sl FuncR w lo hi A n c fs) (hh : hi ≤ w.heap.size) (hm : mszLFunc fs ≤ 1048576) :
    Calls Try.prog 45 #[.agg #[.slice A n c]] w (RetPgO (foldPg fs) (goodP fs) w) := by
  generalize hg0 : goodP fs = g
  have hg := Lib.hid hg0
  clear hg0
  cases g
  · rw [foldPg_no hg.out]
    go_enter Try.func45, Try.ntmps45
    go_wp2_with fail
    refine (implIsProg _ lo hi A n c fs (h.below (show Below w.heap.size w _ by (repeat (first | with_reducible exact Below.refl _ _ | with_reducible assumption | with_reducible refine below_alloc ?_ _ | ((with_reducible refine Below.setCell ?_ ?_ _); rotate_left; (· first | exact Nat.le_refl _ | (simp; done) | (simp; omega))) | with_reducible refine below_drewN ?_ _ | with_reducible refine Below.drew ?_ | with_reducible refine below_then ?_ (by with_reducible assumption)))) hh) (by first | omega | (simp; done) | (simp; omega)) hm).mono ?_
    rintro e w2 ⟨rfl, hb2⟩
    rw [hg.out]
    have hx2 : Below w.heap.size w w2 := by (repeat (first | with_reducible exact Below.refl _ _ | with_reducible assumption | with_reducible refine below_alloc ?_ _ | ((with_reducible refine Below.setCell ?_ ?_ _); rotate_left; (· first | exact Nat.le_refl _ | (simp; done) | (simp; omega))) | with_reducible refine below_drewN ?_ _ | with_reducible refine Below.drew ?_ | with_reducible refine below_then ?_ (by with_reducible assumption)))
    obtain ⟨hcE, hfE⟩ := bcell hb2
    have r0 : w2.cell? ⟨w.heap.size + 1, 0, none⟩ = some (.slice none 0 0) := by simp [hcE, go_sem]
    have rf : w2.frozen? ⟨w.heap.size + 1, 0, none⟩ = false := by simp [hfE, go_sem]
    have hR2 : w.heap.size + 1 < w2.heap.size := World.block_lt_of_cell? w2 _ r0
    clear hcE hfE hb2
    go_wp2_with fail
    refine bodyPost_ret (v := .tuple #[.agg #[.slice none 0 0], .bool false]) (by simp [results, Try.results45, go_sem, r0]) rfl ?_
    exact ⟨none, 0, 0, [], rfl, OwnSl.nil_ _ _ _, by simp, by simp, by (repeat (first | with_reducible exact Below.refl _ _ | with_reducible assumption | with_reducible refine below_alloc ?_ _ | ((with_reducible refine Below.setCell ?_ ?_ _); rotate_left; (· first | exact Nat.le_refl _ | (simp; done) | (simp; omega))) | with_reducible refine below_drewN ?_ _ | with_reducible refine Below.drew ?_ | with_reducible refine below_then ?_ (by with_reducible assumption)))⟩
  · rw [foldPg_yes hg.out]
    go_enter Try.func45, Try.ntmps45
    go_wp2_with fail
    refine (implIsProg _ lo hi A n c fs (h.below (show Below w.heap.size w _ by (repeat (first | with_reducible exact Below.refl _ _ | with_reducible assumption | with_reducible refine below_alloc ?_ _ | ((with_reducible refine Below.setCell ?_ ?_ _); rotate_left; (· first | exact Nat.le_refl _ | (simp; done) | (simp; omega))) | with_reducible refine below_drewN ?_ _ | with_reducible refine Below.drew ?_ | with_reducible refine below_then ?_ (by with_reducible assumption)))) hh) (by first | omega | (simp; done) | (simp; omega)) hm).mono ?_
    rintro e wG ⟨rfl, hb2⟩
    rw [hg.out]
    have hxG : Below w.heap.size w wG := by (repeat (first | with_reducible exact Below.refl _ _ | with_reducible assumption | with_reducible refine below_alloc ?_ _ | ((with_reducible refine Below.setCell ?_ ?_ _); rotate_left; (· first | exact Nat.le_refl _ | (simp; done) | (simp; omega))) | with_reducible refine below_drewN ?_ _ | with_reducible refine Below.drew ?_ | with_reducible refine below_then ?_ (by with_reducible assumption)))
    obtain ⟨hcE, hfE⟩ := bcell hb2
    have p0 : wG.cell? ⟨w.heap.size, 0, none⟩ = some (.slice A n c) := by simp [hcE, go_sem]
    have r0 : wG.cell? ⟨w.heap.size + 1, 0, none⟩ = some (.slice none 0 0) := by simp [hcE, go_sem]
    have rf : wG.frozen? ⟨w.heap.size + 1, 0, none⟩ = false := by simp [hfE, go_sem]
    have hR2 : w.heap.size + 1 < wG.heap.size := World.block_lt_of_cell? wG _ r0
    have hzw : w.heap.size < wG.heap.size := by omega
    clear hcE hfE hb2
    replace h := h.below hxG hh
    have hhG : hi ≤ wG.heap.size := by have := hxG.size; omega
    go_wp2_with fail
    refine (implCloneProg _ lo hi A n c fs (h.below (show Below wG.heap.size wG _ by (repeat (first | with_reducible exact Below.refl _ _ | with_reducible assumption | with_reducible refine below_alloc ?_ _ | ((with_reducible refine Below.setCell ?_ ?_ _); rotate_left; (· first | exact Nat.le_refl _ | (simp; done) | (simp; omega))) | with_reducible refine below_drewN ?_ _ | with_reducible refine Below.drew ?_ | with_reducible refine below_then ?_ (by with_reducible assumption)))) hhG) (by first | omega | (simp; done) | (simp; omega)) hm).mono ?_
    rintro e wC ⟨A0, n0, c0, F0, rfl, o0, hF0, hbC⟩
    have hxC : Below wG.heap.size wG wC := by (repeat (first | with_reducible exact Below.refl _ _ | with_reducible assumption | with_reducible refine below_alloc ?_ _ | ((with_reducible refine Below.setCell ?_ ?_ _); rotate_left; (· first | exact Nat.le_refl _ | (simp; done) | (simp; omega))) | with_reducible refine below_drewN ?_ _ | with_reducible refine Below.drew ?_ | with_reducible refine below_then ?_ (by with_reducible assumption)))
    have hzC := hxC.size
    have r0C := below_cell hxC r0
    have rfC := below_frozen hxC hR2 rf
    replace hF0 : ∀ k, k ∈ F0 → w.heap.size + 1 < k := fun k hk => by have := hF0 k hk; first | omega | (simp at this; omega)
    have hn0 := own_len o0
    have hL0 := o0.lt
    have hn5 : n0 ≤ 1048576 := by have := mszLFunc_len fs; omega
    have e1 := Lib.hid hn0
    clear hn0 p0 r0 rf hbC
    go_wp2_with fail
    obtain ⟨w2, hw2⟩ : ∃ w2, w2 = wC.alloc (.cells #[.slice A0 n0 c0] 63) := ⟨_, rfl⟩
    have hCw : Below wC.heap.size wC w2 := by rw [hw2]; (repeat (first | with_reducible exact Below.refl _ _ | with_reducible assumption | with_reducible refine below_alloc ?_ _ | ((with_reducible refine Below.setCell ?_ ?_ _); rotate_left; (· first | exact Nat.le_refl _ | (simp; done) | (simp; omega))) | with_reducible refine below_drewN ?_ _ | with_reducible refine Below.drew ?_ | with_reducible refine below_then ?_ (by with_reducible assumption)))
    have hz2 : w2.heap.size = wC.heap.size + 1 := by rw [hw2]; simp
    have hO0 : w2.cell? ⟨wC.heap.size, 0, none⟩ = some (.slice A0 n0 c0) := by rw [hw2]; simp [go_sem]
    have hR0 := below_cell hCw r0C
    have hRf := below_frozen hCw (show w.heap.size + 1 < wC.heap.size by omega) rfC
    have hx2 : Below w.heap.size w w2 := below_then hxG (below_then hxC hCw)
    have o1 := o0.below hCw
    obtain ⟨O, hO⟩ : ∃ O, O = wC.heap.size := ⟨_, rfl⟩
    rw [← hw2]
    rw [← hO]
    rw [← hO] at hO0 hz2
    have hOa : w.heap.size + 1 < O := by omega
    replace hF0 : ∀ k, k ∈ F0 → w.heap.size + 1 < k ∧ k ≠ O := fun k hk => ⟨hF0 k hk, by have := hL0 k hk; omega⟩
    clear hw2 hO o0 hL0 hCw hxC hxG r0C rfC h
    go_loopw [17] (fun i wr => ∃ (k : Nat) (F : List Nat), k ≤ n0 ∧ i = .int .i64 k ∧ OwnSl FuncR wr 116 F (.slice A0 n0 c0) (mapK foldFu fs k) ∧ (∀ j, j ∈ F → w.heap.size + 1 < j ∧ j ≠ O) ∧ wr.cell? ⟨O, 0, none⟩ = some (.slice A0 n0 c0) ∧ Below (w.heap.size + 2) w2 wr) (fun i _ => n0 - (intOf i).toNat)
    case atStart => exact ⟨0, F0, Nat.zero_le _, rfl, by rw [mapK_0]; exact o1, hF0, hO0, Below.refl _ _⟩
    case round =>
      clear o1 hF0 hO0
      obtain ⟨k, F, hk, rfl, ho, hF, kx, hb⟩ := hrel
      obtain ⟨wo, hwo⟩ : ∃ wo, wo = wr := ⟨_, rfl⟩
      subst hwo
      have hbz := hb.size
      by_cases hlt : k < n0
      · have hkl : k < fs.length := by have := e1.out; omega
        have hmem := List.getElem_mem hkl
        have hsz := mszFunc_at hkl
        have hlt2 : k < (mapK foldFu fs k).length := by rw [mapK_len k (by omega)]; exact hkl
        obtain ⟨g, pre, cs, post, Fj, rfl, hn, hpre, hown, hrow, hgF, hgj, hsub, hback⟩ := ho.swap (by decide) hlt2
        rw [mapK_at hkl] at hown
        have hset := fun i (hi : i = foldFu fs[k]) => mapK_set (g := foldFu) hkl hi
        generalize fs[k] = f0 at hmem hsz hown hset
        obtain ⟨x0, x1, A2, n2, c2, body, A3, m, d, ss, F2, F30, rfl, rfl, rfl, hnd, i0, i1, o2, o3⟩ := Func_ownx hown
        have HMF := Lib.hid hmem
        have HSET := Lib.hid hset
        have HB := Lib.hid hback
        have HR := Lib.hid hrow
        have hss := own_len o3
        have hm4 : m ≤ 1048576 := by
          unfold mszFunc at hsz
          have := mszLStmt_len ss
          simp only at hsz
          omega
        have hslO : ∃ cs', FuncR.rel wo 0 wo.heap.size cs' (x0, x1, body, ss) := ⟨_, FuncR.ownRel hown (fun k hk => ⟨Nat.zero_le _, FuncR.ownLt hown k hk⟩)⟩
        have gc0 := hrow.cellAt (k * 4) (by rw [hn, mapK_len k (by omega)]; have := e1.out; show _ < _ * 4; omega)
        have gc1 := hrow.cellAt (k * 4 + 1) (by rw [hn, mapK_len k (by omega)]; have := e1.out; show _ < _ * 4; omega)
        have gc2 := hrow.cellAt (k * 4 + 2) (by rw [hn, mapK_len k (by omega)]; have := e1.out; show _ < _ * 4; omega)
        have gc3 := hrow.cellAt (k * 4 + 3) (by rw [hn, mapK_len k (by omega)]; have := e1.out; show _ < _ * 4; omega)
        have hpre4 : pre.length = k * 4 := hpre
        rw [show (pre ++ [Value.int .i64 x0, .int .i64 x1, .slice A2 n2 c2, .slice A3 m d] ++ post)[k * 4]? = some (.int .i64 x0) by rw [← hpre4]; simp] at gc0
        rw [show (pre ++ [Value.int .i64 x0, .int .i64 x1, .slice A2 n2 c2, .slice A3 m d] ++ post)[k * 4 + 1]? = some (.int .i64 x1) by rw [← hpre4]; simp] at gc1
        rw [show (pre ++ [Value.int .i64 x0, .int .i64 x1, .slice A2 n2 c2, .slice A3 m d] ++ post)[k * 4 + 2]? = some (.slice A2 n2 c2) by rw [← hpre4]; simp] at gc2
        rw [show (pre ++ [Value.int .i64 x0, .int .i64 x1, .slice A2 n2 c2, .slice A3 m d] ++ post)[k * 4 + 3]? = some (.slice A3 m d) by rw [← hpre4]; simp] at gc3
        have hgl : g < wo.heap.size := ho.lt g hgF
        have hFw := ho.lt
        have HSS := Lib.hid hss
        clear hmem hset hback hrow hn hpre hpre4 hlt2 hsz hss hslO ho hown
        go_wp2_with fail
        obtain ⟨wf, hwf⟩ : ∃ wf, wf = wo.alloc (.cells #[.int .i64 x0, .int .i64 x1, .slice A2 n2 c2, .slice A3 m d] 116) := ⟨_, rfl⟩
        obtain ⟨fb, hfb⟩ : ∃ fb, fb = wo.heap.size := ⟨_, rfl⟩
        have hxf : Below wo.heap.size wo wf := by rw [hwf]; (repeat (first | with_reducible exact Below.refl _ _ | with_reducible assumption | with_reducible refine below_alloc ?_ _ | ((with_reducible refine Below.setCell ?_ ?_ _); rotate_left; (· first | exact Nat.le_refl _ | (simp; done) | (simp; omega))) | with_reducible refine below_drewN ?_ _ | with_reducible refine Below.drew ?_ | with_reducible refine below_then ?_ (by with_reducible assumption)))
        have hzf : wf.heap.size = wo.heap.size + 1 := by rw [hwf]; simp
        have hf3 : wf.cell? ⟨fb, 3, none⟩ = some (.slice A3 m d) := by rw [hwf, hfb]; simp [go_sem]
        rw [← hwf]
        rw [← hfb]
        have hfbz : wo.heap.size ≤ fb := by omega
        have hfbz2 : fb < wf.heap.size := by omega
        have o3f := o3.below hxf
        have hF30 : ∀ i, i ∈ F30 → i < wo.heap.size := o3.lt
        clear hwf hfb gc0 gc1 gc2 gc3 o3
        go_loopw [24] (fun i wr => ∃ (j : Nat) (F3 : List Nat), j ≤ m ∧ i = .int .i64 j ∧ OwnSl StmtR wr 119 F3 (.slice A3 m d) (mapK foldSt ss j) ∧ (∀ i, i ∈ F3 → i ∈ F30 ∨ wf.heap.size ≤ i) ∧ wr.cell? ⟨fb, 3, none⟩ = some (.slice A3 m d) ∧ Fr F30 wf wr) (fun i _ => m - (intOf i).toNat)
        case atStart => exact ⟨0, F30, Nat.zero_le _, rfl, by rw [mapK_0]; exact o3f, fun i hi => Or.inl hi, hf3, Fr.refl _ _⟩
        case round =>
          clear o3f hf3
          obtain ⟨j, F3, hj, rfl, hos, hF3, kf, hf⟩ := hrel
          have hfz := hf.size
          by_cases hjm : j < m
          · have hjl : j < ss.length := by have := HSS.out; omega
            have hmS := List.getElem_mem hjl
            have hlt3 : j < (mapK foldSt ss j).length := by rw [mapK_len j (by omega)]; exact hjl
            obtain ⟨g3, pre3, cs3, post3, Fq, rfl, hn3, hpre3, hown3, hrow3, hgF3, hgq, hsub3, hback3⟩ := hos.swap (by decide) hlt3
            rw [mapK_at hjl] at hown3
            have hset3 := fun i (hi : i = foldSt ss[j]) => mapK_set (g := foldSt) hjl hi
            generalize ss[j] = s0 at hmS hown3 hset3
            obtain ⟨y0, y1, B2, m2, d2, ex, B3, m3, d3, th, B4, m4, d4, el, G2, G3, G4, rfl, rfl, rfl, hnd3, k0, k1, p2, p3, p4⟩ := Stmt_ownx hown3
            have hge : smT ex ∧ ex.length ≤ 12 := good_ex hg.out HMF.out hmS (sl_toks_ok p2.sl)
            have hm12 : m2 ≤ 12 := by have := own_len p2; have := hge.2; omega
            have HSM := Lib.hid hge.1
            have HSET3 := Lib.hid hset3
            have HB3 := Lib.hid hback3
            have HR3 := Lib.hid hrow3
            have hpre5 : pre3.length = j * 5 := hpre3
            have qc := hrow3.cellAt (j * 5 + 2) (by rw [hn3, mapK_len j (by omega)]; show _ < _ * 5; omega)
            rw [show (pre3 ++ [Value.int .i64 y0, .int .i64 y1, .slice B2 m2 d2, .slice B3 m3 d3, .slice B4 m4 d4] ++ post3)[j * 5 + 2]? = some (.slice B2 m2 d2) by rw [← hpre5]; simp] at qc
            have HPRE := Lib.hid hpre5
            have hg3 : g3 < wr.heap.size := hos.lt g3 hgF3
            have hqf : wr.frozen? ⟨g3, j * 5 + 2, none⟩ = false := hrow3.frozenAt _
            have hg3F : g3 ∈ F30 ∨ wf.heap.size ≤ g3 := hF3 g3 hgF3
            have hnef : ¬ g3 = fb := fun e => by rcases hg3F with h1 | h1; have := hF30 g3 h1; omega; omega
            have hbj0 : (0 : Int) ≤ (j : Int) := by omega
            have hbj1 : (j : Int) < (m : Int) := by omega
            have hFq := hos.lt
            clear hmS hlt3 hn3 hpre3 hpre5 hown3 hrow3 hback3 hset3 hge
            go_wp2_with fail
            refine wp_region_noPanic ?_
            refine wp_region_cut (S := (fun V => V.cell? ⟨fb, 3, none⟩ = some (.slice (some ⟨g3, 0, none⟩) m d) ∧ V.cell? ⟨g3, j * 5 + 2, none⟩ = some (.slice B2 m2 d2))) 12 (by kernel_rfl) (by kernel_rfl) (⟨kf, qc⟩) (fun hR0 => ?_)
            simp only [headOps, List.take_succ_cons, List.take_zero]
            refine wpAnyH_take (i := 0) (v := ?_) rfl (by kernel_rfl) (by kernel_rfl) (by kernel_rfl) (fun _ _ _ h => h) (Or.inl ⟨by rfl, ?_⟩) (by assumption) ?_
            rotate_left 1
            · intro w hSw; (try dsimp only at hSw); go_simp; (try with_reducible rfl)
            try simp only [Act.put, List.getElem_toArray, List.getElem_cons_zero, List.getElem_cons_succ, List.setIfInBounds_toArray, List.set_cons_zero, List.set_cons_succ]
            refine wpAnyH_take (i := 1) (v := ?_) rfl (by kernel_rfl) (by kernel_rfl) (by kernel_rfl) (fun _ _ _ h => h) (Or.inl ⟨by rfl, ?_⟩) (by assumption) ?_
            rotate_left 1
            · intro w hSw; (try dsimp only at hSw); go_simp; (try with_reducible rfl)
            try simp only [Act.put, List.getElem_toArray, List.getElem_cons_zero, List.getElem_cons_succ, List.setIfInBounds_toArray, List.set_cons_zero, List.set_cons_succ]
            refine wpAnyH_take (i := 2) (v := ?_) rfl (by kernel_rfl) (by kernel_rfl) (by kernel_rfl) (fun _ _ _ h => h) (Or.inl ⟨by rfl, ?_⟩) (by assumption) ?_
            rotate_left 1
            · intro w hSw; (try dsimp only at hSw); go_simp; (try with_reducible rfl)
            try simp only [Act.put, List.getElem_toArray, List.getElem_cons_zero, List.getElem_cons_succ, List.setIfInBounds_toArray, List.set_cons_zero, List.set_cons_succ]
            refine wpAnyH_take (i := 3) (v := ?_) rfl (by kernel_rfl) (by kernel_rfl) (by kernel_rfl) (fun _ _ _ h => h) (Or.inl ⟨by rfl, ?_⟩) (by assumption) ?_
            rotate_left 1
            · intro w hSw; (try dsimp only at hSw); go_simp; (try with_reducible rfl)
            try simp only [Act.put, List.getElem_toArray, List.getElem_cons_zero, List.getElem_cons_succ, List.setIfInBounds_toArray, List.set_cons_zero, List.set_cons_succ]
            refine wpAnyH_take (i := 4) (v := ?_) rfl (by kernel_rfl) (by kernel_rfl) (by kernel_rfl) (fun _ _ _ h => h) (Or.inl ⟨by rfl, ?_⟩) (by assumption) ?_
            rotate_left 1
            · intro w hSw; (try dsimp only at hSw); go_simp; (try with_reducible rfl)
            try simp only [Act.put, List.getElem_toArray, List.getElem_cons_zero, List.getElem_cons_succ, List.setIfInBounds_toArray, List.set_cons_zero, List.set_cons_succ]
            refine wpAnyH_take (i := 5) (v := ?_) rfl (by kernel_rfl) (by kernel_rfl) (by kernel_rfl) (fun _ _ _ h => h) (Or.inl ⟨by rfl, ?_⟩) (by assumption) ?_
            rotate_left 1
            · intro w hSw; (try dsimp only at hSw); go_simp; (try with_reducible rfl)
            try simp only [Act.put, List.getElem_toArray, List.getElem_cons_zero, List.getElem_cons_succ, List.setIfInBounds_toArray, List.set_cons_zero, List.set_cons_succ]
            refine wpAnyH_take (i := 6) (v := ?_) rfl (by kernel_rfl) (by kernel_rfl) (by kernel_rfl) (fun _ _ _ h => h) (Or.inl ⟨by rfl, ?_⟩) (by assumption) ?_
            rotate_left 1
            · intro w hSw; (try dsimp only at hSw); go_simp; (try with_reducible rfl)
            try simp only [Act.put, List.getElem_toArray, List.getElem_cons_zero, List.getElem_cons_succ, List.setIfInBounds_toArray, List.set_cons_zero, List.set_cons_succ]
            refine wpAnyH_take (i := 7) (v := ?_) rfl (by kernel_rfl) (by kernel_rfl) (by kernel_rfl) (fun _ _ _ h => h) (Or.inl ⟨by rfl, ?_⟩) (by assumption) ?_
            rotate_left 1
            · intro w hSw; (try dsimp only at hSw); go_simp; (try with_reducible rfl)
            try simp only [Act.put, List.getElem_toArray, List.getElem_cons_zero, List.getElem_cons_succ, List.setIfInBounds_toArray, List.set_cons_zero, List.set_cons_succ]
            refine wpAnyH_take (i := 8) (v := ?_) rfl (by kernel_rfl) (by kernel_rfl) (by kernel_rfl) (fun _ _ _ h => h) (Or.inl ⟨by rfl, ?_⟩) (by assumption) ?_
            rotate_left 1
            · intro w hSw; (try dsimp only at hSw); go_simp; (try with_reducible rfl)
            try simp only [Act.put, List.getElem_toArray, List.getElem_cons_zero, List.getElem_cons_succ, List.setIfInBounds_toArray, List.set_cons_zero, List.set_cons_succ]
            refine wpAnyH_ready (rs := [9]) (by kernel_rfl) (by simp) ?_
            refine AllReadyH.cons (i := 9) rfl (fun K hK => ?_) AllReadyH.nil
            go_simp
            go_at_call 88
            with_reducible refine (implFoldExprR _ 0 wr.heap.size B2 m2 d2 ex (p2.sl.below (show Below wr.heap.size wr _ by (repeat (first | with_reducible exact Below.refl _ _ | with_reducible assumption | with_reducible refine below_alloc ?_ _ | ((with_reducible refine Below.setCell ?_ ?_ _); rotate_left; (· first | exact Nat.le_refl _ | (simp; done) | (simp; omega))) | with_reducible refine below_drewN ?_ _ | with_reducible refine Below.drew ?_ | with_reducible refine below_then ?_ (by with_reducible assumption)))) (Nat.le_refl _)) (by first | omega | (simp; done) | (simp; omega)) hm12 HSM.out).mono ?_
            rintro e w5 ⟨v5, rfl, r5, k5⟩
            have b5 : Below wr.heap.size wr w5 := (by (repeat (first | with_reducible exact Below.refl _ _ | with_reducible assumption | with_reducible refine below_alloc ?_ _ | ((with_reducible refine Below.setCell ?_ ?_ _); rotate_left; (· first | exact Nat.le_refl _ | (simp; done) | (simp; omega))) | with_reducible refine below_drewN ?_ _ | with_reducible refine Below.drew ?_ | with_reducible refine below_then ?_ (by with_reducible assumption))))
            have z5 := b5.size
            obtain ⟨A5, m5, d5, rfl, t5⟩ := tokRow_form r5
            clear t5
            have kf5 := below_cell b5 kf
            have qc5 := below_cell b5 qc
            have qf5 := below_frozen b5 hg3 hqf
            go_wp2_with fail
            refine hK.out _ _ (⟨kf5, qc5⟩) (fun hR5 => ?_)
            clear hK K
            try simp only [Act.put, List.getElem_toArray, List.getElem_cons_zero, List.getElem_cons_succ, List.setIfInBounds_toArray, List.set_cons_zero, List.set_cons_succ]
            refine wpAnyH_take (i := 10) (v := ?_) rfl (by kernel_rfl) (by kernel_rfl) (by kernel_rfl) (fun _ _ _ h => h) (Or.inl ⟨by rfl, ?_⟩) (by assumption) ?_
            rotate_left 1
            · intro w hSw; (try dsimp only at hSw); go_simp; (try with_reducible rfl)
            try simp only [Act.put, List.getElem_toArray, List.getElem_cons_zero, List.getElem_cons_succ, List.setIfInBounds_toArray, List.set_cons_zero, List.set_cons_succ]
            refine wpAnyH_take (i := 11) (v := ?_) rfl (by kernel_rfl) (by kernel_rfl) (by kernel_rfl) (fun _ _ _ h => h) (Or.inl ⟨by rfl, ?_⟩) (by assumption) ?_
            rotate_left 1
            · intro w hSw; (try dsimp only at hSw); go_simp; (try with_reducible rfl)
            try simp only [Act.put, List.getElem_toArray, List.getElem_cons_zero, List.getElem_cons_succ, List.setIfInBounds_toArray, List.set_cons_zero, List.set_cons_succ]
            refine wpAnyH_done (by kernel_rfl) ?_ _
            refine lastQ_op rfl (fun K hK => ?_)
            rw [if_pos (by rfl)]
            go_simp
            refine hK _ _ ?_
            clear hK K
            refine NoPanic.normal ?_
            have o2' : OwnSl TokR w5 202 (Value.slice A5 m5 d5).ownBlock.toList (.slice A5 m5 d5) (foldF ex) := own_flat r5 (fun x hx => tok_own (smT_ok (foldF_sm _ _ HSM.out) x hx))
            have y5 := World.ownsRow.lt r5
            have hG2 : ∀ i, i ∈ (Value.slice A5 m5 d5).ownBlock.toList → wr.heap.size ≤ i ∧ i < w5.heap.size := fun i hi => by have := y5 i (by simpa using hi); simp only [heap_drew] at this; exact this
            have hkp : ∀ i, i < wr.heap.size → i ≠ g3 → (w5.setCell ⟨g3, j * 5 + 2, none⟩ (.slice A5 m5 d5)).heap[i]? = wr.heap[i]? := fun i h1 h2 => (Below.heap_setCell _ _ _ _ h2).trans (b5.block i h1)
            have hG : ∀ i, i ∈ G3 ++ G4 → i ∈ G2 ++ (G3 ++ G4) := fun i hi => List.mem_append_right _ hi
            have hne : ∀ i, i ∈ G2 ++ (G3 ++ G4) → i ≠ g3 := fun i hi e => hgq (e ▸ hi)
            have hC : StmtR.own (w5.setCell ⟨g3, j * 5 + 2, none⟩ (.slice A5 m5 d5)) ((Value.slice A5 m5 d5).ownBlock.toList ++ (G3 ++ G4)) [.int .i64 y0, .int .i64 y1, .slice A5 m5 d5, .slice B3 m3 d3, .slice B4 m4 d4] (foldSt (y0, y1, ex, th, el)) :=
              Stmt_own (o2'.keep fun i hi => Below.heap_setCell _ _ _ _ (by have := (hG2 i hi).1; show i ≠ g3; omega))
                (p3.keep fun i hi => hkp i (hFq i (hsub3 i (hG i (List.mem_append_left _ hi)))) (hne i (hG i (List.mem_append_left _ hi))))
                (p4.keep fun i hi => hkp i (hFq i (hsub3 i (hG i (List.mem_append_right _ hi)))) (hne i (hG i (List.mem_append_right _ hi)))) k0 k1
                (nodup_of' (m := wr.heap.size) hnd3 o2'.nodup (fun i hi => hFq i (hsub3 i (hG i hi))) (fun i hi => (hG2 i hi).1))
            have hrow6 : (w5.setCell ⟨g3, j * 5 + 2, none⟩ (.slice A5 m5 d5)).ownsRow 0 119 StmtR.size (.slice (some ⟨g3, 0, none⟩) m d) m (pre3 ++ [.int .i64 y0, .int .i64 y1, .slice A5 m5 d5, .slice B3 m3 d3, .slice B4 m4 d4] ++ post3) := by
              have h1 := (ownsRow_below HR3.out b5).stored (j * 5 + 2) (.slice A5 m5 d5)
              have h2 := h1.1
              rw [set_mid2 HPRE.out] at h2
              exact h2
            obtain ⟨F9, o9, hF9⟩ := HB3.out _ _ _ _ hC (fun i hi => by
              rcases List.mem_append.1 hi with hi | hi
              · exact Or.inr (hG2 i hi).1
              · exact Or.inl (hG i hi)) hrow6 (fun i h1 h2 _ => hkp i (hFq i h1) h2)
            rw [HSET3.out _ rfl] at o9
            have hF9' : ∀ i, i ∈ F9 → i ∈ F30 ∨ wf.heap.size ≤ i := fun i hi => by
              rcases hF9 i hi with h1 | h1
              · exact hF3 i h1
              · rcases List.mem_append.1 h1 with h1 | h1
                · exact Or.inr (by have := (hG2 i h1).1; omega)
                · exact hF3 i (hsub3 i (hG i h1))
            have kf9 : (w5.setCell ⟨g3, j * 5 + 2, none⟩ (.slice A5 m5 d5)).cell? ⟨fb, 3, none⟩ = some (.slice (some ⟨g3, 0, none⟩) m d) := by
              rw [World.cell?_setCell_far _ _ _ _ hnef]; exact below_cell b5 kf
            have hf9 : Fr F30 wf (w5.setCell ⟨g3, j * 5 + 2, none⟩ (.slice A5 m5 d5)) := (hf.trans (Fr.of_below b5)).setNew hg3F _
            clear hC hrow6 HB3 HR3 o2' p2 p3 p4 hos r5 k5 y5 hkp hR0 hR5
            go_wp2_with fail
            go_roundw
            case rel => exact ⟨j + 1, F9, by omega, by go_num, o9, hF9', kf9, hf9⟩
            case measure => simp [intOf]; omega
          · have hfin := hos
            rw [mapK_all (by have := HSS.out; omega)] at hfin
            have hnF : ∀ i, i ∈ F2 → i ∉ F30 := fun i h1 h2 => by
              rw [List.nodup_append] at hnd; exact hnd.2.2 i h1 i h2 rfl
            have hold : ∀ i, i < wo.heap.size → i ∉ F30 → wr.heap[i]? = wo.heap[i]? := fun i h1 h2 => (hf.block i (by omega) h2).trans (hxf.block i h1)
            have hC : FuncR.own wr (F2 ++ F3) [.int .i64 x0, .int .i64 x1, .slice A2 n2 c2, .slice A3 m d] (x0, x1, body, ss.map foldSt) :=
              Func_own (o2.keep fun i hi => hold i (o2.lt i hi) (hnF i hi)) hfin i0 i1 (nodup_of (m := wo.heap.size) hnd hfin.nodup o2.lt (fun i hi => by rcases hF3 i hi with h1 | h1; exact Or.inl h1; exact Or.inr (by omega)))
            have hg30 : g ∉ F30 := fun h1 => hgj (List.mem_append_right _ h1)
            obtain ⟨F9, o9, hF9⟩ := HB.out wr _ _ _ hC (fun i hi => by
              rcases List.mem_append.1 hi with hi | hi
              · exact Or.inl (List.mem_append_left _ hi)
              · rcases hF3 i hi with h1 | h1
                · exact Or.inl (List.mem_append_right _ h1)
                · exact Or.inr (by omega))
              (ownsRow_keep0 HR.out fun i hi => by
                have : g = i := by simpa [Value.ownBlock] using hi
                subst this
                exact hold g hgl hg30)
              (fun i h1 h2 h3 => hold i (hFw i h1) (fun h4 => h3 (List.mem_append_right _ h4)))
            rw [HSET.out (x0, x1, body, ss.map foldSt) rfl] at o9
            have hO30 : O ∉ F30 := fun h1 => (hF O (hsub O (List.mem_append_right _ h1))).2 rfl
            have hOl : O < wo.heap.size := World.block_lt_of_cell? wo _ kx
            have kx9 : wr.cell? ⟨O, 0, none⟩ = some (.slice (some ⟨g, 0, none⟩) n0 c0) := (World.cell?_of_block (w := wo) (a := ⟨O, 0, none⟩) (hold O hOl hO30)).trans kx
            have hF9' : ∀ i, i ∈ F9 → w.heap.size + 1 < i ∧ i ≠ O := fun i hi => by
              rcases hF9 i hi with h1 | h1
              · exact hF i h1
              · rcases List.mem_append.1 h1 with h1 | h1
                · exact hF i (hsub i (List.mem_append_left _ h1))
                · rcases hF3 i h1 with h1 | h1
                  · exact hF i (hsub i (List.mem_append_right _ h1))
                  · omega
            have hb9 : Below (w.heap.size + 2) w2 wr := ⟨hf.os.trans (hxf.os.trans hb.os), hf.tape.trans (hxf.tape.trans hb.tape), hf.output.trans (hxf.output.trans hb.output), by omega, fun i hi => (hold i (by omega) (fun h1 => by have := (hF i (hsub i (List.mem_append_right _ h1))).1; omega)).trans (hb.block i hi)⟩
            clear hC HB HR hos hfin o2 kf kx hold
            go_wp2_with fail
            go_roundw
            case rel => exact ⟨k + 1, F9, by omega, by go_num, o9, hF9', kx9, hb9⟩
            case measure => simp [intOf]; omega
      · have hfin := ho
        rw [mapK_all (by have := e1.out; omega)] at hfin
        have kr : wo.cell? ⟨w.heap.size + 1, 0, none⟩ = some (.slice none 0 0) := (hb.cell (p := ⟨w.heap.size + 1, 0, none⟩) (show w.heap.size + 1 < w.heap.size + 2 by omega)).trans hR0
        have kfr : wo.frozen? ⟨w.heap.size + 1, 0, none⟩ = false := (hb.frozen (p := ⟨w.heap.size + 1, 0, none⟩) (show w.heap.size + 1 < w.heap.size + 2 by omega)).trans hRf
        have hbw : Below w.heap.size w wo := hx2.trans (hb.mono (by omega))
        have hnd := hfin.nodup
        clear ho
        go_wp2_with fail
        refine bodyPost_ret (v := .tuple #[.agg #[.slice A0 n0 c0], .bool true]) (by simp [results, Try.results45, go_sem, kr]) rfl ?_
        exact ⟨A0, n0, c0, F, rfl, hfin.keep (fun i hi => Below.heap_setCell _ _ _ _ (by have := hF i hi; show i ≠ w.heap.size + 1; omega)), hnd, fun i hi => by have := hF i hi; omega, by (repeat (first | with_reducible exact Below.refl _ _ | with_reducible assumption | with_reducible refine below_alloc ?_ _ | ((with_reducible refine Below.setCell ?_ ?_ _); rotate_left; (· first | exact Nat.le_refl _ | (simp; done) | (simp; omega))) | with_reducible refine below_drewN ?_ _ | with_reducible refine Below.drew ?_ | with_reducible refine below_then ?_ (by with_reducible assumption)))⟩
theorem specFoldProgC (w : World) (A : Option Addr) (n c : Nat) (fs : List Func) (h : Sl FuncR w 0 w.heap.size A n c fs) (hm : mszLFunc fs ≤ 1048576) (s : List Func) (hz : foldPg fs = s) (b : Bool) (hb : goodP fs = b) :
    Calls Try.prog 44 #[.agg #[.slice A n c]] w (RetPgS s b w) := by
  subst hz hb; exact specFoldProg2 w 0 _ A n c fs h (Nat.le_refl _) hm
theorem implFoldProgC (w : World) (A : Option Addr) (n c : Nat) (fs : List Func) (h : Sl FuncR w 0 w.heap.size A n c fs) (hm : mszLFunc fs ≤ 1048576) (s : List Func) (hz : foldPg fs = s) (b : Bool) (hb : goodP fs = b) :
    Calls Try.prog 45 #[.agg #[.slice A n c]] w (RetPgO s b w) := by
  subst hz hb; exact implFoldProg2 w 0 _ A n c fs h (Nat.le_refl _) hm
end Go.Proofs.Ythdpkcmeepabjaa
