/- The codes of a good image made shorter: the program's walk. -/
import Derived.Test.YtmnkgcjbckamnaaGreatTidy1
import Derived.Test.YtmnkgcjbckamnaaGreatThread2
set_option linter.unusedVariables false
set_option linter.unusedSimpArgs false
set_option maxRecDepth 100000
namespace Go.Proofs.YtmnkgcjbckamnaaGreat
open Go.RowKit
attribute [local irreducible] wpList

/-- A threaded code is sized. -/
theorem codeSz_thr {c : Code} (h : codeSz c = true) (hg : goesB c.2.2.2.1 = true) : codeSz (threadF c) = true := by
  have hs := codeSz_len h
  have h' := h
  unfold codeSz at h' ⊢
  unfold threadF
  simp only [List.length_map] at *
  rw [Bool.and_eq_true] at h' ⊢
  refine ⟨h'.1, ?_⟩
  rw [List.all_map, List.all_eq_true]
  intro i hi
  have h1 := List.all_eq_true.1 h'.2 i hi
  simp only [Function.comp]
  by_cases hj : isJ i.1 = true
  · rw [thrI_yes hj]
    obtain ⟨q, hq, rfl⟩ := List.getElem_of_mem hi
    have h2 := thrN_in hg 300 _ (jump_in hg hq hj)
    have h3 := isJ_or hj
    have h4 : inB (thrN c.2.2.2.1 300 (c.2.2.2.1[q]).2) 0 1000000 = true := inB_iff.2 (by omega)
    unfold insB hasNB
    simp only
    rcases h3 with h3 | h3 <;> rw [h3] <;> simpa using h4
  · rw [thrI_no (by simpa using hj)]; exact h1
theorem All3.put3 {α β γ : Type} {P Q : α → β → γ → Prop} : ∀ {xs : List α} {ys : List β} {zs : List γ} (_ : All3 P xs ys zs) (j : Nat) (hj : j < xs.length) (a : α) (b : β) (c : γ), Q a b c →
    (∀ a b c, a ∈ xs.take j ++ xs.drop (j + 1) → P a b c → Q a b c) → All3 Q (xs.set j a) (ys.set j b) (zs.set j c)
  | x :: xs, y :: ys, z :: zs, h, 0, _, a, b, c, hq, ho => ⟨hq, h.2.mono fun u v t hu hp => ho u v t (by simpa using hu) hp⟩
  | x :: xs, y :: ys, z :: zs, h, j + 1, hj, a, b, c, hq, ho =>
    ⟨ho x y z (by simp) h.1, All3.put3 (xs := xs) (ys := ys) (zs := zs) h.2 j (by simpa using hj) a b c hq fun u v t hu hp => ho u v t (by
      rcases List.mem_append.1 hu with hu | hu
      · exact List.mem_append_left _ (by simp [hu])
      · exact List.mem_append_right _ (by simpa using hu)) hp⟩
  | [], [], [], _, _, hj, _, _, _, _, _ => absurd hj (by simp)
  | [], [], _ :: _, h, _, _, _, _, _, _, _ => h.elim
  | [], _ :: _, [], h, _, _, _, _, _, _, _ => h.elim
  | [], _ :: _, _ :: _, h, _, _, _, _, _, _, _ => h.elim
  | _ :: _, [], [], h, _, _, _, _, _, _, _ => h.elim
  | _ :: _, [], _ :: _, h, _, _, _, _, _, _, _ => h.elim
  | _ :: _, _ :: _, [], h, _, _, _, _, _, _, _ => h.elim
/-- One element of an owned slice is put anew, with blocks of its own. It is read only from then on. -/
theorem OwnSl.swap {α : Type} {R : Rp α} {w : World} {e : TypeId} {F : List Nat} {A : Option Addr} {n c : Nat} {l : List α} (h : OwnSl R w e F (.slice A n c) l) (hp : 0 < R.size) {j : Nat} (hj : j < l.length) :
    ∃ g pre cs post, A = some ⟨g, 0, none⟩ ∧ n = l.length ∧ pre.length = j * R.size ∧ cs.length = R.size ∧ w.ownsRow 0 e R.size (.slice (some ⟨g, 0, none⟩) n c) n (pre ++ cs ++ post) ∧ g ∈ F ∧
      ∀ w' cs' x' Fx, R.own w' Fx cs' x' → (∀ k, k ∈ Fx → k ∉ F) → w'.ownsRow 0 e R.size (.slice (some ⟨g, 0, none⟩) n c) n (pre ++ cs' ++ post) → (∀ k, k ∈ F → k ≠ g → w'.heap[k]? = w.heap[k]?) → Sl R w' 0 w'.heap.size (some ⟨g, 0, none⟩) n c (l.set j x') := by
  obtain ⟨csl, Fs, h1, h2, rfl, hn⟩ := h
  have hl := h2.len
  obtain ⟨hnl, ⟨_, h0, _⟩ | ⟨g, rfl, _, _⟩⟩ := ownsRow_cases h1
  · omega
  subst hnl
  have hF : ((Value.slice (some ⟨g, 0, none⟩) l.length c).ownBlock.toList ++ Fs.flatten) = g :: Fs.flatten := rfl
  rw [hF] at hn ⊢
  have hg := (List.nodup_cons.1 hn).1
  have hjF : j < Fs.length := by omega
  have hjc : j < csl.length := by omega
  refine ⟨g, (csl.take j).flatten, csl[j], (csl.drop (j + 1)).flatten, rfl, rfl, ?_, all3_len h2 _ (List.getElem_mem hjc), ?_, List.mem_cons_self .., ?_⟩
  · rw [flatten_len (s := R.size) (fun x hx => all3_len h2 x (List.mem_of_mem_take hx)), List.length_take, Nat.min_eq_left (by omega)]
  · rw [← flatten_at hjc]; exact h1
  · intro w' cs' x' Fx ho hd hr hk
    have h3 : All3 (R.own w') (Fs.set j Fx) (csl.set j cs') (l.set j x') := All3.put3 h2 j hjF Fx cs' x' ho (fun a b d ha hown => by
      have hin : ∀ k, k ∈ a → k ∈ Fs.flatten := fun k hka => by
        rcases List.mem_append.1 ha with ha | ha
        · exact List.mem_flatten.2 ⟨a, List.mem_of_mem_take ha, hka⟩
        · exact List.mem_flatten.2 ⟨a, List.mem_of_mem_drop ha, hka⟩
      exact R.ownKeep (fun k hka => hk k (List.mem_cons_of_mem _ (hin k hka)) (fun e => hg (e ▸ hin k hka))) hown)
    refine OwnSl.sl (e := e) (F := g :: (Fs.set j Fx).flatten) ⟨csl.set j cs', Fs.set j Fx, ?_, h3, rfl, ?_⟩
    · rw [flatten_set hjc, List.length_set]; exact hr
    · rw [List.nodup_cons]
      have hfl := flatten_set hjF Fx
      have hfo := flatten_at hjF
      have hn2 := (List.nodup_cons.1 hn).2
      rw [hfo, List.nodup_append, List.nodup_append] at hn2
      obtain ⟨⟨a1, a2, a3⟩, b2, b3⟩ := hn2
      have hx : ∀ k, k ∈ Fx → k ∉ Fs.flatten := fun k hk hm => hd k hk (List.mem_cons_of_mem _ hm)
      have sub1 : ∀ k, k ∈ (Fs.take j).flatten → k ∈ Fs.flatten := fun k hk => by
        obtain ⟨a, ha, hka⟩ := List.mem_flatten.1 hk; exact List.mem_flatten.2 ⟨a, List.mem_of_mem_take ha, hka⟩
      have sub2 : ∀ k, k ∈ (Fs.drop (j + 1)).flatten → k ∈ Fs.flatten := fun k hk => by
        obtain ⟨a, ha, hka⟩ := List.mem_flatten.1 hk; exact List.mem_flatten.2 ⟨a, List.mem_of_mem_drop ha, hka⟩
      refine ⟨fun hm => ?_, ?_⟩
      · rw [hfl] at hm
        rcases List.mem_append.1 hm with hm | hm
        · rcases List.mem_append.1 hm with hm | hm
          · exact hg (sub1 g hm)
          · exact hd g hm (List.mem_cons_self ..)
        · exact hg (sub2 g hm)
      · rw [hfl, List.nodup_append, List.nodup_append]
        refine ⟨⟨a1, R.ownNodup ho, fun u hu v hv e => hx v hv (sub1 v (e ▸ hu))⟩, b2, fun u hu v hv e => ?_⟩
        rcases List.mem_append.1 hu with hu | hu
        · exact b3 u (List.mem_append_left _ hu) v hv e
        · exact hx u hu (sub2 u (e ▸ hv))
/-- Five cells of a row are put. -/
theorem row_put5 {w : World} {e : TypeId} {n c g o : Nat} {pre cs post : List Value} (h : w.ownsRow 0 e 5 (.slice (some ⟨g, 0, none⟩) n c) n (pre ++ cs ++ post)) (ho : pre.length = o) (hc : cs.length = 5) (u0 u1 u2 u3 u4 : Value) :
    (((((w.setCell ⟨g, o, none⟩ u0).setCell ⟨g, o + 1, none⟩ u1).setCell ⟨g, o + 2, none⟩ u2).setCell ⟨g, o + 3, none⟩ u3).setCell ⟨g, o + 4, none⟩ u4).ownsRow 0 e 5 (.slice (some ⟨g, 0, none⟩) n c) n (pre ++ [u0, u1, u2, u3, u4] ++ post) := by
  match cs, hc with
  | [a, b, d, f, k], _ =>
    have h0 := rowSet h ho (i := 0) (by simp) u0
    have h1 := rowSet h0 ho (i := 1) (by simp) u1
    have h2 := rowSet h1 ho (i := 2) (by simp) u2
    have h3 := rowSet h2 ho (i := 3) (by simp) u3
    have h4 := rowSet h3 ho (i := 4) (by simp) u4
    exact h4
theorem mem_set_codes {x : List Code} {j : Nat} {d : Code} (hx : ∀ c ∈ x, codeSz c = true) (hd : codeSz d = true) : ∀ c ∈ x.set j d, codeSz c = true := by
  intro c hc
  rcases List.mem_or_eq_of_mem_set hc with h | rfl
  · exact hx c h
  · exact hd
theorem thrF_eta (c : Code) : threadF c = (c.1, c.2.1, c.2.2.1, c.2.2.2.1.map (thrI c.2.2.2.1), c.2.2.2.2) := rfl
theorem tidyF_take {x : Image} {k : Nat} (hk : k < x.length) : (tidyF x).take (k + 1) = (tidyF x).take k ++ [dropF (threadF x[k]) (checkH x (threadF x[k]))] := by
  unfold tidyF
  rw [← List.map_take, ← List.map_take, List.take_succ_eq_append_getElem hk, List.map_append]; rfl
theorem tidyF_len (x : Image) : (tidyF x).length = x.length := by simp [tidyF]
/-- What the program finds of the image with one code threaded. -/
theorem thr_facts {x : Image} (hg : goodI x = true) {k : Nat} (hk : k < x.length) : codeF (x.set k (threadF x[k])) (threadF x[k]) = 0 ∧ checkH (x.set k (threadF x[k])) (threadF x[k]) = checkH x (threadF x[k]) ∧ codeF x (threadF x[k]) = 0 ∧ codeSz (threadF x[k]) = true ∧ (∀ c ∈ x.set k (threadF x[k]), codeSz c = true) := by
  have h := goodI_iff.1 hg
  have hc := h.2.2 _ (List.getElem_mem hk)
  have hp : ∀ j, parF (x.set k (threadF x[k])) j = parF x j := fun j => parF_set (c := threadF x[k]) hk rfl j
  have h1 := codeF_thr (y := x.set k (threadF x[k])) (by simp) hp hc
  have h2 := codeF_thr (y := x) rfl (fun _ => rfl) hc
  have hs := sizedB_mem h.1
  have hz := codeSz_thr (hs _ (List.getElem_mem hk)) (codeF_0 hc).2.1
  exact ⟨h1, checkH_par hp h2 h1, h2, hz, mem_set_codes hs hz⟩
set_option maxHeartbeats 8000000 in
theorem implTidyImage1 (w : World) (lo hi : Nat) (A : Option Addr) (n c : Nat) (x : List Code) (h : Sl CodeR w lo hi A n c x) (hh : hi ≤ w.heap.size) (hg : goodI x = true) :
    Calls Tryz.prog 58 #[.agg #[.slice A n c]] w (RetCl (tidyF x) w) := by
  have HL := Lib.hid h.lenEq
  have HG := Lib.hid hg
  have hg' := goodI_iff.1 hg
  have HZ := Lib.hid (sizedB_mem hg'.1)
  have hn : n ≤ 1048576 := by
    have := HL.out
    have := sizedB_len hg'.1
    omega
  have b1 := h.lenLe
  clear hg hg'
  go_enter Tryz.func58, Tryz.ntmps58
  go_upto_region 3 with fail
  obtain ⟨W0, hW0⟩ : ∃ W, W = ((w.alloc (.cells #[.slice A n c] 35)).alloc (.cells #[.slice none 0 0] 35)).alloc (.cells #[.slice none 0 0] 35) := ⟨_, rfl⟩
  have hbW0 : Below w.heap.size w W0 := by rw [hW0]; (repeat (first | with_reducible exact Below.refl _ _ | with_reducible assumption | with_reducible refine below_alloc ?_ _ | ((with_reducible refine Below.setCell ?_ ?_ _); rotate_left; (· first | exact Nat.le_refl _ | (simp; done) | (simp; omega))) | with_reducible refine below_drewN ?_ _ | with_reducible refine Below.drew ?_ | with_reducible refine below_then ?_ (by with_reducible assumption)))
  have hzW0 : W0.heap.size = w.heap.size + 3 := by rw [hW0]; simp
  obtain ⟨Y, hY⟩ : ∃ Y, Y = w.heap.size + 1 + 1 := ⟨_, rfl⟩
  have kx0 : W0.cell? ⟨w.heap.size, 0, none⟩ = some (.slice A n c) := by rw [hW0]; simp [go_sem]
  have k0 : W0.cell? ⟨Y, 0, none⟩ = some (.slice none 0 0) := by rw [hW0, hY]; simp [go_sem]
  have kf : W0.frozen? ⟨Y, 0, none⟩ = false := by rw [hW0, hY]; simp [go_sem]
  have r0 : W0.cell? ⟨w.heap.size + 1, 0, none⟩ = some (.slice none 0 0) := by rw [hW0]; simp [go_sem]
  have rf : ∀ j, W0.frozen? ⟨w.heap.size + 1, j, none⟩ = false := fun j => by rw [hW0]; simp [go_sem]
  rw [← hW0, ← hY]
  clear hW0
  have hYw : w.heap.size + 1 < Y ∧ Y < W0.heap.size := by omega
  clear hY
  have hzw : w.heap.size + 3 ≤ W0.heap.size := by omega
  clear hzW0
  go_loopw [10] (fun i wr => ∃ (k : Nat) (v : Value) (F : List Nat), k ≤ n ∧ i = .int .i64 k ∧ OwnSl CodeR wr 30 F v ((tidyF x).take k) ∧ (∀ u, u ∈ F → W0.heap.size ≤ u) ∧ wr.cell? ⟨Y, 0, none⟩ = some v ∧ wr.frozen? ⟨Y, 0, none⟩ = false ∧ Fr [Y] W0 wr) (fun i _ => n - (intOf i).toNat)
  case atStart => exact ⟨0, _, [], Nat.zero_le _, rfl, OwnSl.nil_ _ _ _, by simp, k0, kf, Fr.refl _ _⟩
  case round =>
    clear k0 kf
    obtain ⟨k, v, F, hk, rfl, ho, hF, kY, kYf, hf⟩ := hrel
    have hzr := hf.size
    have hbw : Below w.heap.size w wr := below_fr hbW0 hf (by first | omega | (simp; done) | (simp; omega))
    by_cases hlt : k < n
    · have kx := cell_fr hf (by simp; omega) kx0
      obtain ⟨bc, oc, z0, z1, D2, m2, d2, t2, D3, m3, d3, t3, D4, m4, d4, t4, rfl, _, hbb, hlc, i0, i1, kS2, kS3, kS4, v0, v1, v2, v3, v4⟩ := Code_at (h.below hbw hh) hlt
      have hkx : k < x.length := by have := HL.out; omega
      have HF := Lib.hid (thr_facts HG.out hkx)
      have hsz := codeSz_len (HZ.out _ (List.getElem_mem hkx))
      have hgo := (codeF_0 ((goodI_iff.1 HG.out).2.2 _ (List.getElem_mem hkx))).2.1
      have hthr : thrB (z0, z1, t2, t3, t4) = true := by unfold thrB; rw [← hlc, HZ.out _ (List.getElem_mem hkx), hgo]; rfl
      rw [hlc] at hsz hgo
      simp only at hsz hgo
      have HTHR := Lib.hid hthr
      have HX := Lib.hid (show threadF x[k] = (z0, z1, t2, t3.map (thrI t3), t4) by rw [hlc]; rfl)
      obtain ⟨H, HH0⟩ : ∃ H, checkH (x.set k (threadF x[k])) (threadF x[k]) = H := ⟨_, rfl⟩
      have HST := Lib.hid (show (tidyF x).take (k + 1) = (tidyF x).take k ++ [(z0, z1, t2, dropK (patI H) (t3.map (thrI t3)) H (t3.map (thrI t3)).length, dropRows H t4)] by
        rw [tidyF_take hkx, ← HF.out.2.1, HH0, HX.out]; rfl)
      have HH := Lib.hid HH0
      have l3 := kS3.lenEq
      have j2 := Lib.hid (sl_ints_ok kS2)
      have j3 := Lib.hid (dropK_ok (h := H) (k := (t3.map (thrI t3)).length) (I := t3.map (thrI t3)) (fun i hi => by
        obtain ⟨y, hy, rfl⟩ := List.mem_map.1 hi
        exact thrI_ok hgo (by omega) hy (sl_ins_ok kS3 y hy)))
      have j4 := Lib.hid (dropRows_ok (h := H) (sl_rows_ok kS4))
      have j4s := Lib.hid (sl_rows_ok kS4)
      have jt3 := Lib.hid (show ∀ i, i ∈ t3.map (thrI t3) → okIns i from fun i hi => by
        obtain ⟨y, hy, rfl⟩ := List.mem_map.1 hi
        exact thrI_ok hgo (by omega) hy (sl_ins_ok kS3 y hy))
      have hlen : ((tidyF x).take k).length ≤ 1048576 := by simp; omega
      have hlF := ho.lt
      have hHLw : w.heap.size < wr.heap.size := by omega
      clear hsz hgo hthr hlc HH0 l3
      go_upto_region 5 with fail
      obtain ⟨wB, hwB⟩ : ∃ W, W = wr.alloc (.cells #[.int .i64 z0, .int .i64 z1, .slice D2 m2 d2, .slice D3 m3 d3, .slice D4 m4 d4] 30) := ⟨_, rfl⟩
      have hbB : Below wr.heap.size wr wB := by rw [hwB]; (repeat (first | with_reducible exact Below.refl _ _ | with_reducible assumption | with_reducible refine below_alloc ?_ _ | ((with_reducible refine Below.setCell ?_ ?_ _); rotate_left; (· first | exact Nat.le_refl _ | (simp; done) | (simp; omega))) | with_reducible refine below_drewN ?_ _ | with_reducible refine Below.drew ?_ | with_reducible refine below_then ?_ (by with_reducible assumption)))
      have hBz := hbB.size
      have hBB := Lib.hid (show ∀ V, Below wB.heap.size wB V → V.cell? ⟨wr.heap.size, 0, none⟩ = some (.int .i64 z0) ∧ V.cell? ⟨wr.heap.size, 1, none⟩ = some (.int .i64 z1) ∧ V.cell? ⟨wr.heap.size, 2, none⟩ = some (.slice D2 m2 d2) ∧ V.cell? ⟨wr.heap.size, 3, none⟩ = some (.slice D3 m3 d3) ∧ V.cell? ⟨wr.heap.size, 4, none⟩ = some (.slice D4 m4 d4) from fun V hV => by
        refine ⟨below_cell hV ?_, below_cell hV ?_, below_cell hV ?_, below_cell hV ?_, below_cell hV ?_⟩ <;> (rw [hwB]; simp [go_sem]))
      have kxB := below_cell hbB kx
      have hbwB : Below w.heap.size w wB := below_then hbw hbB
      rw [← hwB]
      clear hwB v0 v1 v2 v3 v4
      go_wp2_with fail
      refine (implCloneImage _ lo hi (some ⟨bc, oc, none⟩) n c x (h.below (below_then hbwB (show Below wB.heap.size wB _ by (repeat (first | with_reducible exact Below.refl _ _ | with_reducible assumption | with_reducible refine below_alloc ?_ _ | ((with_reducible refine Below.setCell ?_ ?_ _); rotate_left; (· first | exact Nat.le_refl _ | (simp; done) | (simp; omega))) | with_reducible refine below_drewN ?_ _ | with_reducible refine Below.drew ?_ | with_reducible refine below_then ?_ (by with_reducible assumption))))) hh) (by have := hbwB.size; first | omega | (simp; done) | (simp; omega)) HZ.out hn).mono ?_
      rintro e wC ⟨Ao, no, oc2, Fo, rfl, hoO, hFo, hbC⟩
      have hbBC : Below wB.heap.size wB wC := by (repeat (first | with_reducible exact Below.refl _ _ | with_reducible assumption | with_reducible refine below_alloc ?_ _ | ((with_reducible refine Below.setCell ?_ ?_ _); rotate_left; (· first | exact Nat.le_refl _ | (simp; done) | (simp; omega))) | with_reducible refine below_drewN ?_ _ | with_reducible refine Below.drew ?_ | with_reducible refine below_then ?_ (by with_reducible assumption)))
      have hzC := hbBC.size
      obtain ⟨og, pre, cs, post, hA, hno, hpre, hcs, hrow, hogF, hput0⟩ := hoO.swap (by decide) (j := k) hkx
      subst hA
      obtain rfl : no = n := by have := HL.out; omega
      have hput := Lib.hid hput0
      have hogB := hFo og hogF
      have hogC := hoO.lt og hogF
      have hFoC := hoO.lt
      have hFoH := Lib.hid hFo
      have hFoCH := Lib.hid hFoC
      replace hno := Lib.hid hno
      replace hpre := Lib.hid (show pre.length = k * 5 from hpre)
      replace hcs := Lib.hid (show cs.length = 5 from hcs)
      clear hput0 hFo hFoC hoO
      go_upto_region 6 with fail
      obtain ⟨wD, hwD⟩ : ∃ W, W = wC.alloc (.cells #[.slice (some ⟨og, 0, none⟩) no oc2] 35) := ⟨_, rfl⟩
      have hbD : Below wC.heap.size wC wD := by rw [hwD]; (repeat (first | with_reducible exact Below.refl _ _ | with_reducible assumption | with_reducible refine below_alloc ?_ _ | ((with_reducible refine Below.setCell ?_ ?_ _); rotate_left; (· first | exact Nat.le_refl _ | (simp; done) | (simp; omega))) | with_reducible refine below_drewN ?_ _ | with_reducible refine Below.drew ?_ | with_reducible refine below_then ?_ (by with_reducible assumption)))
      have hDz := hbD.size
      obtain ⟨OB, hOB⟩ : ∃ B, B = wC.heap.size := ⟨_, rfl⟩
      have nO0 : wD.cell? ⟨OB, 0, none⟩ = some (.slice (some ⟨og, 0, none⟩) no oc2) := by rw [hwD, hOB]; simp [go_sem]
      rw [← hwD, ← hOB]
      have hOBz : wC.heap.size ≤ OB ∧ OB < wD.heap.size := ⟨by omega, World.block_lt_of_cell? wD _ nO0⟩
      have hOBog : og < OB := by omega
      have hbBD : Below wB.heap.size wB wD := below_then hbBC hbD
      have hzBD := hbBD.size
      have hS6 := Lib.hid (show ∀ V, Fr [og] wD V → V.cell? ⟨OB, 0, none⟩ = some (.slice (some ⟨og, 0, none⟩) no oc2) ∧ V.cell? ⟨wr.heap.size, 0, none⟩ = some (.int .i64 z0) ∧ V.cell? ⟨wr.heap.size, 1, none⟩ = some (.int .i64 z1) ∧ V.cell? ⟨wr.heap.size, 2, none⟩ = some (.slice D2 m2 d2) ∧ V.cell? ⟨wr.heap.size, 3, none⟩ = some (.slice D3 m3 d3) ∧ V.cell? ⟨wr.heap.size, 4, none⟩ = some (.slice D4 m4 d4) from fun V hV => by
        obtain ⟨p0, p1, p2, p3, p4⟩ := hBB.out wD hbBD
        have hwl : wr.heap.size < wB.heap.size := by
          obtain ⟨p0, _⟩ := hBB.out wB (Below.refl _ _)
          exact World.block_lt_of_cell? wB _ p0
        exact ⟨cell_fr hV (by simp; omega) nO0, cell_fr hV (by simp; omega) p0, cell_fr hV (by simp; omega) p1, cell_fr hV (by simp; omega) p2, cell_fr hV (by simp; omega) p3, cell_fr hV (by simp; omega) p4⟩)
      have hbwD : Below w.heap.size w wD := below_then hbwB hbBD
      have hhD : hi ≤ wD.heap.size := by have := hbwD.size; omega
      have kS2D := kS2.below (below_then hbB hbBD) (by omega)
      have kS3D := kS3.below (below_then hbB hbBD) (by omega)
      have kS4D := kS4.below (below_then hbB hbBD) (by omega)
      have hkI : (k : Int) < (no : Int) := by omega
      have hfrD : Fr [og] wr wD := Fr.of_below (below_then hbB hbBD)
      have hrw0 := Lib.hid (show ∀ q, q < wC.heap.size → wD.heap[q]? = wC.heap[q]? from fun q hq => hbD.block q hq)
      clear hwD hOB hbD
      go_region_held3 (fun V => V.cell? ⟨OB, 0, none⟩ = some (.slice (some ⟨og, 0, none⟩) no oc2) ∧ V.cell? ⟨wr.heap.size, 0, none⟩ = some (.int .i64 z0) ∧ V.cell? ⟨wr.heap.size, 1, none⟩ = some (.int .i64 z1) ∧ V.cell? ⟨wr.heap.size, 2, none⟩ = some (.slice D2 m2 d2) ∧ V.cell? ⟨wr.heap.size, 3, none⟩ = some (.slice D3 m3 d3) ∧ V.cell? ⟨wr.heap.size, 4, none⟩ = some (.slice D4 m4 d4)) (exact hS6.out _ (show Fr [og] wD _ by (repeat (first | with_reducible exact Fr.refl _ _ | with_reducible assumption | ((with_reducible refine Fr.setCell ?_ ?_ _); rotate_left; (· first | (simp; done) | assumption | (simp; assumption))) | with_reducible refine Fr.drewN ?_ _ | with_reducible refine Fr.drew ?_ | with_reducible refine Fr.alloc ?_ _ | with_reducible refine Fr.trans ?_ (Fr.of_below (by with_reducible assumption))))))
        (first | (go_at_call 101; ((with_reducible refine (implThreaded _ lo hi z0 z1 D2 D3 D4 m2 d2 m3 d3 m4 d4 t2 t3 t4 (kS2D.below (show Below wD.heap.size wD _ by (repeat (first | with_reducible exact Below.refl _ _ | with_reducible assumption | with_reducible refine below_alloc ?_ _ | ((with_reducible refine Below.setCell ?_ ?_ _); rotate_left; (· first | exact Nat.le_refl _ | (simp; done) | (simp; omega))) | with_reducible refine below_drewN ?_ _ | with_reducible refine Below.drew ?_ | with_reducible refine below_then ?_ (by with_reducible assumption)))) hhD) (kS3D.below (show Below wD.heap.size wD _ by (repeat (first | with_reducible exact Below.refl _ _ | with_reducible assumption | with_reducible refine below_alloc ?_ _ | ((with_reducible refine Below.setCell ?_ ?_ _); rotate_left; (· first | exact Nat.le_refl _ | (simp; done) | (simp; omega))) | with_reducible refine below_drewN ?_ _ | with_reducible refine Below.drew ?_ | with_reducible refine below_then ?_ (by with_reducible assumption)))) hhD) (kS4D.below (show Below wD.heap.size wD _ by (repeat (first | with_reducible exact Below.refl _ _ | with_reducible assumption | with_reducible refine below_alloc ?_ _ | ((with_reducible refine Below.setCell ?_ ?_ _); rotate_left; (· first | exact Nat.le_refl _ | (simp; done) | (simp; omega))) | with_reducible refine below_drewN ?_ _ | with_reducible refine Below.drew ?_ | with_reducible refine below_then ?_ (by with_reducible assumption)))) hhD) (by first | omega | (simp; done) | (simp; omega)) HTHR.out).mono ?_); rintro e w6 ⟨E2, a2, f2, E3, a3, f3, E4, a4, f4, rfl, hcd6, hb6⟩; have b6 : Below wD.heap.size wD w6 := (by (repeat (first | with_reducible exact Below.refl _ _ | with_reducible assumption | with_reducible refine below_alloc ?_ _ | ((with_reducible refine Below.setCell ?_ ?_ _); rotate_left; (· first | exact Nat.le_refl _ | (simp; done) | (simp; omega))) | with_reducible refine below_drewN ?_ _ | with_reducible refine Below.drew ?_ | with_reducible refine below_then ?_ (by with_reducible assumption)))); have z6 := b6.size; have hrow6 := ownsRow_keep0 (w' := w6) hrow (fun q hq => by (simp [Value.ownBlock] at hq; subst hq; exact (b6.block _ (by omega)).trans (hrw0.out _ hogC))); have u0 := rowCell hrow6 hpre.out (i := 0) (by have := hcs.out; omega); have u1 := rowCell hrow6 hpre.out (i := 1) (by have := hcs.out; omega); have u2 := rowCell hrow6 hpre.out (i := 2) (by have := hcs.out; omega); have u3 := rowCell hrow6 hpre.out (i := 3) (by have := hcs.out; omega); have u4 := rowCell hrow6 hpre.out (i := 4) (by have := hcs.out; omega); have g0 := hrow6.frozenAt (k * 5); have g1 := hrow6.frozenAt (k * 5 + 1); have g2 := hrow6.frozenAt (k * 5 + 2); have g3 := hrow6.frozenAt (k * 5 + 3); have g4 := hrow6.frozenAt (k * 5 + 4); simp only [Nat.add_zero] at u0)))
      obtain ⟨Fx, hCx, hFx⟩ := cd_own (x0 := z0) (x1 := z1) hcd6 i0 i1 j2.out jt3.out j4s.out
      have hrow7 := row_put5 hrow6 hpre.out hcs.out (.int .i64 z0) (.int .i64 z1) (.slice E2 a2 f2) (.slice E3 a3 f3) (.slice E4 a4 f4)
      obtain ⟨wS, hwS⟩ : ∃ W, W = ((((w6.setCell ⟨og, k * 5, none⟩ (.int .i64 z0)).setCell ⟨og, k * 5 + 1, none⟩ (.int .i64 z1)).setCell ⟨og, k * 5 + 2, none⟩ (.slice E2 a2 f2)).setCell ⟨og, k * 5 + 3, none⟩ (.slice E3 a3 f3)).setCell ⟨og, k * 5 + 4, none⟩ (.slice E4 a4 f4) := ⟨_, rfl⟩
      have hfS6 : Fr [og] w6 wS := by rw [hwS]; (repeat (first | with_reducible exact Fr.refl _ _ | with_reducible assumption | ((with_reducible refine Fr.setCell ?_ ?_ _); rotate_left; (· first | (simp; done) | assumption | (simp; assumption))) | with_reducible refine Fr.drewN ?_ _ | with_reducible refine Fr.drew ?_ | with_reducible refine Fr.alloc ?_ _ | with_reducible refine Fr.trans ?_ (Fr.of_below (by with_reducible assumption))))
      rw [← hwS] at hrow7 ⊢
      clear hwS
      have hSz6 := hfS6.size
      have hCxS : CodeR.own wS Fx [.int .i64 z0, .int .i64 z1, .slice E2 a2 f2, .slice E3 a3 f3, .slice E4 a4 f4] (z0, z1, t2, t3.map (thrI t3), t4) := CodeR.ownKeep (fun q hq => hfS6.block q (hFx q hq).2 (by have := (hFx q hq).1; simp only [heap_drew] at this; simp; omega)) hCx
      have hSl := hput.out wS _ _ Fx hCxS (fun q hq hq' => by have := (hFx q hq).1; have := hFoCH.out q hq'; simp only [heap_drew] at *; omega) hrow7 (fun q hq hne => (hfS6.block q (by have := hFoCH.out q hq; omega) (by simpa using hne)).trans ((b6.block q (by have := hFoCH.out q hq; omega)).trans (hrw0.out q (hFoCH.out q hq))))
      rw [← HX.out] at hSl
      have hfrS : Fr [og] wr wS := (hfrD.trans (Fr.of_below b6)).trans hfS6
      have hoS := ho.fr hfrS (fun u hu hu' => by have := hlF u hu; simp at hu'; omega)
      have hlFS : ∀ u, u ∈ F → u < wr.heap.size := hlF
      have nS := cell_fr hfrS (show ¬ Y ∈ [og] by simp; omega) kY
      have nfS := frozen_fr hfrS (show ¬ Y ∈ [og] by simp; omega) (show Y < wr.heap.size by omega) kYf
      have nO := (hS6.out wS ((Fr.of_below b6).trans hfS6)).1
      have hfS : Fr [Y] W0 wS := fr_new hf hfrS (by simp; omega)
      have hSS : wr.heap.size ≤ wS.heap.size := hfrS.size
      clear hCx hCxS hrow6 hrow7 u0 u1 u2 u3 u4 g0 g1 g2 g3 g4 hcd6 ho hf kY kYf hrow kx kxB
      go_upto_region 7 with fail
      refine wp_region_noPanic ?_
      refine wp_region_cut (S := (fun V => V.cell? ⟨Y, 0, none⟩ = some v ∧ V.cell? ⟨OB, 0, none⟩ = some (.slice (some ⟨og, 0, none⟩) no oc2))) 8 (by kernel_rfl) (by kernel_rfl) (⟨nS, nO⟩) (fun hR0 => ?_)
      simp only [headOps, List.take_succ_cons, List.take_zero]
      refine wpAnyH_take (i := 0) (v := ?_) rfl (by kernel_rfl) (by kernel_rfl) (by kernel_rfl) (fun _ _ _ h => h) (Or.inl ⟨by rfl, ?_⟩) (by assumption) ?_
      rotate_left 1
      · intro w hSw; (try dsimp only at hSw); go_simp; (try with_reducible rfl)
      try simp only [Act.put, List.getElem_toArray, List.getElem_cons_zero, List.getElem_cons_succ, List.setIfInBounds_toArray, List.set_cons_zero, List.set_cons_succ]
      refine wpAnyH_take (i := 1) (v := ?_) rfl (by kernel_rfl) (by kernel_rfl) (by kernel_rfl) (fun _ _ _ h => h) (Or.inl ⟨by rfl, ?_⟩) (by assumption) ?_
      rotate_left 1
      · intro w hSw; (try dsimp only at hSw); go_simp; (try with_reducible rfl)
      try simp only [Act.put, List.getElem_toArray, List.getElem_cons_zero, List.getElem_cons_succ, List.setIfInBounds_toArray, List.set_cons_zero, List.set_cons_succ]
      refine wpAnyH_take (i := 2) (v := ?_) rfl (by kernel_rfl) (by kernel_rfl) (by kernel_rfl) (fun _ _ _ h => h) (Or.inl ⟨by rfl, ?_⟩) (by assumption) ?_
      rotate_left 1
      · intro w hSw; (try dsimp only at hSw); go_simp; (try with_reducible rfl)
      try simp only [Act.put, List.getElem_toArray, List.getElem_cons_zero, List.getElem_cons_succ, List.setIfInBounds_toArray, List.set_cons_zero, List.set_cons_succ]
      refine wpAnyH_take (i := 3) (v := ?_) rfl (by kernel_rfl) (by kernel_rfl) (by kernel_rfl) (fun _ _ _ h => h) (Or.inl ⟨by rfl, ?_⟩) (by assumption) ?_
      rotate_left 1
      · intro w hSw; (try dsimp only at hSw); go_simp; (try with_reducible rfl)
      try simp only [Act.put, List.getElem_toArray, List.getElem_cons_zero, List.getElem_cons_succ, List.setIfInBounds_toArray, List.set_cons_zero, List.set_cons_succ]
      refine wpAnyH_ready (rs := [4]) (by kernel_rfl) (by simp) ?_
      refine AllReadyH.cons (i := 4) rfl (fun K hK => ?_) AllReadyH.nil
      go_simp
      go_at_call 47
      ((with_reducible refine (implDropDead1 _ 0 wS.heap.size (some ⟨og, 0, none⟩) no oc2 (x.set k (threadF x[k])) k (hSl.below (show Below wS.heap.size wS _ by (repeat (first | with_reducible exact Below.refl _ _ | with_reducible assumption | with_reducible refine below_alloc ?_ _ | ((with_reducible refine Below.setCell ?_ ?_ _); rotate_left; (· first | exact Nat.le_refl _ | (simp; done) | (simp; omega))) | with_reducible refine below_drewN ?_ _ | with_reducible refine Below.drew ?_ | with_reducible refine below_then ?_ (by with_reducible assumption)))) (Nat.le_refl _)) (by first | omega | (simp; done) | (simp; omega)) hlt HF.out.2.2.2.2 (by rw [List.getElem_set_self]; exact HF.out.1) z0 z1 t2 (t3.map (thrI t3)) t4 (by rw [List.getElem_set_self]; exact HX.out) H (by rw [List.getElem_set_self]; exact HH.out)).mono ?_); rintro e w5 ⟨B2, p2, q2, B3, p3, q3, B4, p4, q4, rfl, hcd, hb5⟩; have b5 : Below wS.heap.size wS w5 := (by (repeat (first | with_reducible exact Below.refl _ _ | with_reducible assumption | with_reducible refine below_alloc ?_ _ | ((with_reducible refine Below.setCell ?_ ?_ _); rotate_left; (· first | exact Nat.le_refl _ | (simp; done) | (simp; omega))) | with_reducible refine below_drewN ?_ _ | with_reducible refine Below.drew ?_ | with_reducible refine below_then ?_ (by with_reducible assumption)))); have z5 := b5.size; have nS5 := below_cell b5 nS; have nO5 := below_cell b5 nO; obtain ⟨Fc, hC, hFc⟩ := cd_own hcd i0 i1 j2.out j3.out j4.out)
      go_wp2_with fail
      refine hK.out _ _ (⟨nS5, nO5⟩) (fun hR5 => ?_)
      clear hK K
      try simp only [Act.put, List.getElem_toArray, List.getElem_cons_zero, List.getElem_cons_succ, List.setIfInBounds_toArray, List.set_cons_zero, List.set_cons_succ]
      refine wpAnyH_ready (rs := [5]) (by kernel_rfl) (by simp) ?_
      refine AllReadyH.cons (i := 5) rfl (fun K hK => ?_) AllReadyH.nil
      go_simp
      refine hK.out _ _ (⟨below_cell (show Below w5.heap.size w5 _ by (repeat (first | with_reducible exact Below.refl _ _ | with_reducible assumption | with_reducible refine below_alloc ?_ _ | ((with_reducible refine Below.setCell ?_ ?_ _); rotate_left; (· first | exact Nat.le_refl _ | (simp; done) | (simp; omega))) | with_reducible refine below_drewN ?_ _ | with_reducible refine Below.drew ?_ | with_reducible refine below_then ?_ (by with_reducible assumption)))) nS5, below_cell (show Below w5.heap.size w5 _ by (repeat (first | with_reducible exact Below.refl _ _ | with_reducible assumption | with_reducible refine below_alloc ?_ _ | ((with_reducible refine Below.setCell ?_ ?_ _); rotate_left; (· first | exact Nat.le_refl _ | (simp; done) | (simp; omega))) | with_reducible refine below_drewN ?_ _ | with_reducible refine Below.drew ?_ | with_reducible refine below_then ?_ (by with_reducible assumption)))) nO5⟩) (fun hR6 => ?_)
      clear hK K
      try simp only [Act.put, List.getElem_toArray, List.getElem_cons_zero, List.getElem_cons_succ, List.setIfInBounds_toArray, List.set_cons_zero, List.set_cons_succ]
      refine wpAnyH_ready (rs := [6]) (by kernel_rfl) (by simp) ?_
      refine AllReadyH.cons (i := 6) rfl (fun K hK => ?_) AllReadyH.nil
      refine step_code w5 (by rfl) _ _ (by rfl) v ((tidyF x).take k) F (by rfl) (hoS.below b5) z0 z1 B2 B3 B4 p2 q2 p3 q3 p4 q4 _ Fc hC (fun u h1 h2 => by (have q1 := (hFc u h1).1; have q2 := hlF u h2; simp only [heap_drew] at q1; omega)) (by rfl) hlen ?_
      intro A8 m8 d8 w8 F8 o8 fr8 hF8
      have nS8 := cell_fr fr8 (fun hm => by have := hF _ hm; omega) nS5
      have nO8 := cell_fr fr8 (fun hm => by have := hlF _ hm; omega) nO5
      have nf8 : w8.frozen? ⟨Y, 0, none⟩ = false := frozen_fr fr8 (fun hm => by have := hF _ hm; omega) (by omega) (below_frozen b5 (show Y < wS.heap.size by omega) nfS)
      refine hK.out _ _ (⟨nS8, nO8⟩) (fun hR7 => ?_)
      clear hK K
      try simp only [Act.put, List.getElem_toArray, List.getElem_cons_zero, List.getElem_cons_succ, List.setIfInBounds_toArray, List.set_cons_zero, List.set_cons_succ]
      refine wpAnyH_take (i := 7) (v := ?_) rfl (by kernel_rfl) (by kernel_rfl) (by kernel_rfl) (fun _ _ _ h => h) (Or.inl ⟨by rfl, ?_⟩) (by assumption) ?_
      rotate_left 1
      · intro w hSw; (try dsimp only at hSw); go_simp; (try with_reducible rfl)
      try simp only [Act.put, List.getElem_toArray, List.getElem_cons_zero, List.getElem_cons_succ, List.setIfInBounds_toArray, List.set_cons_zero, List.set_cons_succ]
      refine wpAnyH_done (by kernel_rfl) ?_ _
      refine lastQ_op rfl (fun K hK => ?_)
      rw [if_pos (by rfl)]
      go_simp
      refine hK _ _ ?_
      clear hK K
      refine NoPanic.normal ?_
      have hF9 : ∀ u, u ∈ F8 → W0.heap.size ≤ u := fun u hu => by
        rcases hF8 u hu with hm | hm | hm
        · exact hF u hm
        · have := (hFc u hm).1; simp only [heap_drew] at this; omega
        · omega
      have ho9 : OwnSl CodeR (w8.setCell ⟨Y, 0, none⟩ (.slice A8 m8 d8)) 30 F8 (.slice A8 m8 d8) ((tidyF x).take (k + 1)) := by
        rw [HST.out]
        exact o8.keep fun u hu => Below.heap_setCell _ _ _ _ (by have := hF9 u hu; show u ≠ Y; omega)
      have fr9 : Fr [Y] W0 (w8.setCell ⟨Y, 0, none⟩ (.slice A8 m8 d8)) := (fr_new (hfS.trans (Fr.of_below b5)) fr8 hF).setCell (p := ⟨Y, 0, none⟩) (by simp) _
      clear o8 fr8 hF8 hC hFc hcd hoS hfS b5
      go_wp2_with fail
      go_roundw
      case rel => exact ⟨k + 1, _, F8, by omega, by go_num, ho9, hF9, by simp [go_sem, nS8], by simp [go_sem, nf8], fr9⟩
      case measure => simp [intOf]; omega
    · rw [List.take_of_length_le (by rw [tidyF_len]; have := HL.out; omega)] at ho
      obtain ⟨A9, n9, c9, hv9, h9⟩ := ho.form
      subst hv9
      clear h9
      have g0 := cell_fr hf (by simp; omega) r0
      have gf : ∀ j, wr.frozen? ⟨w.heap.size + 1, j, none⟩ = false := fun j => frozen_fr hf (by simp; omega) (by omega) (rf j)
      have hYr : Y < wr.heap.size := by omega
      clear r0 rf hf
      go_wp2_with fail
      refine bodyPost_ret (v := .agg #[.slice A9 n9 c9]) (by simp [results, Tryz.results58, go_sem, g0, gf]) rfl ?_
      exact ⟨_, _, _, F, rfl, ho.keep fun u hu => (show Fr [w.heap.size + 1] wr _ by (repeat (first | with_reducible exact Fr.refl _ _ | with_reducible assumption | ((with_reducible refine Fr.setCell ?_ ?_ _); rotate_left; (· first | (simp; done) | assumption | (simp; assumption))) | with_reducible refine Fr.drewN ?_ _ | with_reducible refine Fr.drew ?_ | with_reducible refine Fr.alloc ?_ _ | with_reducible refine Fr.trans ?_ (Fr.of_below (by with_reducible assumption))))).block u (ho.lt u hu) (by have := hF u hu; simp; omega), fun u hu => by have := hF u hu; omega, by (repeat (first | with_reducible exact Below.refl _ _ | with_reducible assumption | with_reducible refine below_alloc ?_ _ | ((with_reducible refine Below.setCell ?_ ?_ _); rotate_left; (· first | exact Nat.le_refl _ | (simp; done) | (simp; omega))) | with_reducible refine below_drewN ?_ _ | with_reducible refine Below.drew ?_ | with_reducible refine below_then ?_ (by with_reducible assumption)))⟩
end Go.Proofs.YtmnkgcjbckamnaaGreat
