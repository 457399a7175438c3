/- A code more in an image that is built; a copy of an image: the program's walk. -/
import Derived.Test.YtmnkgcjbckamnaaGreatDrop4
import Derived.Test.YtmnkgcjbckamnaaGreatKit1
import Derived.Test.YtmnkgcjbckamnaaGreatRegCut
import Derived.Deep.DeepCutAuto
import Derived.Deep.RegionHeld3
set_option linter.unusedVariables false
set_option linter.unusedSimpArgs false
set_option maxRecDepth 100000
namespace Go.Proofs.YtmnkgcjbckamnaaGreat
open Go.RowKit
attribute [local irreducible] wpList
theorem Tryz.infoCodeT : (Tryz.prog.info? 30).map (fun i => (i.zero, i.size, i.bytes)) = some (some (.agg #[.int .i64 0, .int .i64 0, .slice none 0 0, .slice none 0 0, .slice none 0 0]), 5, 88) := by kernel_rfl
theorem code_one' {x0 x1 : Int} {A2 A3 A4 : Option Addr} {n2 c2 n3 c3 n4 c4 : Nat} : ∀ u ∈ ([.int .i64 x0, .int .i64 x1, .slice A2 n2 c2, .slice A3 n3 c3, .slice A4 n4 c4] : List Value), u.oneCell' = true := by
  intro u hu; simp at hu; rcases hu with rfl | rfl | rfl | rfl | rfl <;> rfl
theorem cd_own {w : World} {B : Nat} {x0 x1 : Int} {s2 : List Int} {s3 : List Ins} {s4 : List Row} {A2 A3 A4 : Option Addr} {n2 c2 n3 c3 n4 c4 : Nat} (h : CdRows w B (.slice A2 n2 c2) (.slice A3 n3 c3) (.slice A4 n4 c4) s2 s3 s4) (i0 : I64 x0) (i1 : I64 x1) (i2 : ∀ x, x ∈ s2 → I64 x) (i3 : ∀ x, x ∈ s3 → okIns x) (i4 : ∀ x, x ∈ s4 → I64 x.1 ∧ I64 x.2.1 ∧ I64 x.2.2) :
    ∃ Fc, CodeR.own w Fc [.int .i64 x0, .int .i64 x1, .slice A2 n2 c2, .slice A3 n3 c3, .slice A4 n4 c4] (x0, x1, s2, s3, s4) ∧ ∀ k, k ∈ Fc → B ≤ k ∧ k < w.heap.size := by
  have o2 := own_ints h.r2 i2
  have o3 : OwnSl InsR w 119 _ (.slice A3 n3 c3) s3 := own_flat h.r3 (fun x hx => ins_own (i3 x hx))
  have o4 : OwnSl RowR w 97 _ (.slice A4 n4 c4) s4 := own_flat h.r4 (fun x hx => row_own (i4 x hx))
  refine ⟨_, Code_own o2 o3 o4 i0 i1 ?_, ?_⟩
  · rw [List.nodup_append, List.nodup_append]
    have nd : ∀ o : Option Nat, o.toList.Nodup := fun o => by cases o <;> simp
    refine ⟨nd _, ⟨nd _, nd _, ?_⟩, ?_⟩
    · intro a ha b hb e
      subst e
      exact h.d34 a (by simpa using ha) (by simpa using hb)
    · intro a ha b hb e
      subst e
      rcases List.mem_append.1 hb with hb | hb
      · exact h.d23 a (by simpa using ha) (by simpa using hb)
      · exact h.d24 a (by simpa using ha) (by simpa using hb)
  · intro k hk
    rcases List.mem_append.1 hk with hk | hk
    · exact World.ownsRow.lt h.r2 k (by simpa using hk)
    · rcases List.mem_append.1 hk with hk | hk
      · exact World.ownsRow.lt h.r3 k (by simpa using hk)
      · exact World.ownsRow.lt h.r4 k (by simpa using hk)
/-- One code more. -/
theorem step_code {ops : Array Oper} {o : Oper} {a : Act} {K : Act → World → Prop} {Q : Exit → Act → World → Prop} {E : Prop} (w5 : World) (hgd : o.guard = none) (s x : Operand)
    (ho : o.op = .call { callee := .builtin .append, args := #[s, x], argTypes := #[33, 33] }) (v : Value) (l : List Code) (F : List Nat) (hs : a.eval s = v) (hown : OwnSl CodeR w5 30 F v l)
    (z0 z1 : Int) (A2 A3 A4 : Option Addr) (n2 c2 n3 c3 n4 c4 : Nat) (d : Code) (Fc : List Nat) (hC : CodeR.own w5 Fc [.int .i64 z0, .int .i64 z1, .slice A2 n2 c2, .slice A3 n3 c3, .slice A4 n4 c4] d) (hdj : ∀ k, k ∈ Fc → k ∉ F)
    (hx : a.eval x = .slice (some ⟨w5.heap.size, 0, none⟩) 1 1) (hl : l.length ≤ 1048576)
    (h : ∀ A' n' c' w' F', OwnSl CodeR w' 30 F' (.slice A' n' c') (l ++ [d]) → Fr F w5 w' → (∀ k, k ∈ F' → k ∈ F ∨ k ∈ Fc ∨ w5.heap.size ≤ k) → K (a.put o.dst (.slice A' n' c')) w') :
    if Region.wanted o (yielded ops a.tmps) = true then Oper.wp Tryz.prog o a (w5.alloc (.cells #[.int .i64 z0, .int .i64 z1, .slice A2 n2 c2, .slice A3 n3 c3, .slice A4 n4 c4] 30)) K Q else E := by
  obtain ⟨inf, hif, hz0, hz1, hz2⟩ := info_parts Tryz.infoCodeT
  have hob := hown.ownB
  have hb : Below w5.heap.size w5 (w5.alloc (.cells #[.int .i64 z0, .int .i64 z1, .slice A2 n2 c2, .slice A3 n3 c3, .slice A4 n4 c4] 30)) := by (repeat (first | with_reducible exact Below.refl _ _ | with_reducible assumption | with_reducible refine below_alloc ?_ _ | ((with_reducible refine Below.setCell ?_ ?_ _); rotate_left; (· first | exact Nat.le_refl _ | (simp; done) | (simp; omega))) | with_reducible refine below_drewN ?_ _ | with_reducible refine Below.drew ?_ | with_reducible refine below_then ?_ (by with_reducible assumption)))
  refine step_own1 _ hgd s x _ ho CodeR 30 inf (.agg #[.int .i64 0, .int .i64 0, .slice none 0 0, .slice none 0 0, .slice none 0 0]) 5 88 Tryz.underlying33 hif hz0 hz1 hz2 rfl rfl (by decide) v l.length l F hs rfl (hown.below hb) ⟨w5.heap.size, 0, none⟩ 1 [.int .i64 z0, .int .i64 z1, .slice A2 n2 c2, .slice A3 n3 c3, .slice A4 n4 c4] d Fc hx (cells_new _ _ _ rfl) (CodeR.ownKeep (fun k hk => hb.block k (CodeR.ownLt hC k hk)) hC) code_one' hdj (by omega) (by decide) ?_
  intro v' w' F' h1 h2 h3
  obtain ⟨A', n', c', rfl, _⟩ := h1.form
  refine h A' n' c' w' F' h1 ((Fr.of_below hb).trans ((grown_fr h2).more (fun g hg => hob g (by simpa using hg)))) (fun k hk => ?_)
  rcases h3 k hk with h | h | h
  · exact Or.inl h
  · exact Or.inr (Or.inl h)
  · simp at h; exact Or.inr (Or.inr (by omega))
/-- A list of codes in memory of its own. -/
def RetCl (l : List Code) (w : World) (e : Ending) (w' : World) : Prop :=
  ∃ A n c F, e = .returned (.agg #[.slice A n c]) ∧ OwnSl CodeR w' 30 F (.slice A n c) l ∧ (∀ k, k ∈ F → w.heap.size ≤ k) ∧ Below w.heap.size w w'
set_option maxHeartbeats 8000000 in
theorem implCloneImage (w : World) (lo hi : Nat) (A : Option Addr) (n c : Nat) (x : List Code) (h : Sl CodeR w lo hi A n c x) (hh : hi ≤ w.heap.size) (hz : ∀ c ∈ x, codeSz c = true) (hn : n ≤ 1048576) :
    Calls Tryz.prog 100 #[.agg #[.slice A n c]] w (RetCl x w) := by
  have HL := Lib.hid h.lenEq
  have HZ := Lib.hid hz
  have b1 := h.lenLe
  clear hz
  go_enter Tryz.func100, Tryz.ntmps100
  go_upto_region 3 with fail
  obtain ⟨W0, hW0⟩ : ∃ W, W = ((w.alloc (.cells #[.slice A n c] 35)).alloc (.cells #[.slice none 0 0] 35)).alloc (.cells #[.slice none 0 0] 35) := ⟨_, rfl⟩
  have hbW0 : Below w.heap.size w W0 := by rw [hW0]; (repeat (first | with_reducible exact Below.refl _ _ | with_reducible assumption | with_reducible refine below_alloc ?_ _ | ((with_reducible refine Below.setCell ?_ ?_ _); rotate_left; (· first | exact Nat.le_refl _ | (simp; done) | (simp; omega))) | with_reducible refine below_drewN ?_ _ | with_reducible refine Below.drew ?_ | with_reducible refine below_then ?_ (by with_reducible assumption)))
  have hzW0 : W0.heap.size = w.heap.size + 3 := by rw [hW0]; simp
  obtain ⟨Y, hY⟩ : ∃ Y, Y = w.heap.size + 1 + 1 := ⟨_, rfl⟩
  have k0 : W0.cell? ⟨Y, 0, none⟩ = some (.slice none 0 0) := by rw [hW0, hY]; simp [go_sem]
  have kf : W0.frozen? ⟨Y, 0, none⟩ = false := by rw [hW0, hY]; simp [go_sem]
  have r0 : W0.cell? ⟨w.heap.size + 1, 0, none⟩ = some (.slice none 0 0) := by rw [hW0]; simp [go_sem]
  have rf : ∀ j, W0.frozen? ⟨w.heap.size + 1, j, none⟩ = false := fun j => by rw [hW0]; simp [go_sem]
  rw [← hW0, ← hY]
  clear hW0
  have hYw : w.heap.size + 1 < Y ∧ Y < W0.heap.size := by omega
  clear hY
  have hzw : w.heap.size + 3 ≤ W0.heap.size := by omega
  clear hzW0
  go_loopw [9] (fun i wr => ∃ (k : Nat) (v : Value) (F : List Nat), k ≤ n ∧ i = .int .i64 k ∧ OwnSl CodeR wr 30 F v (x.take k) ∧ (∀ u, u ∈ F → W0.heap.size ≤ u) ∧ wr.cell? ⟨Y, 0, none⟩ = some v ∧ wr.frozen? ⟨Y, 0, none⟩ = false ∧ Fr [Y] W0 wr) (fun i _ => n - (intOf i).toNat)
  case atStart => exact ⟨0, _, [], Nat.zero_le _, rfl, OwnSl.nil_ _ _ _, by simp, k0, kf, Fr.refl _ _⟩
  case round =>
    clear k0 kf
    obtain ⟨k, v, F, hk, rfl, ho, hF, kY, kYf, hf⟩ := hrel
    have hzr := hf.size
    have hbw : Below w.heap.size w wr := below_fr hbW0 hf (by first | omega | (simp; done) | (simp; omega))
    by_cases hlt : k < n
    · obtain ⟨bc, oc, z0, z1, D2, m2, d2, t2, D3, m3, d3, t3, D4, m4, d4, t4, rfl, _, hbb, hlc, i0, i1, kS2, kS3, kS4, v0, v1, v2, v3, v4⟩ := Code_at (h.below hbw hh) hlt
      have hkx : k < x.length := by have := HL.out; omega
      have hsz := codeSz_len (HZ.out _ (List.getElem_mem hkx))
      rw [hlc] at hsz
      simp only at hsz
      have l2 := kS2.lenEq
      have l3 := kS3.lenEq
      have l4 := kS4.lenEq
      have hm2 : m2 ≤ 4 := by omega
      have hm3 : m3 ≤ 300 := by omega
      have hm4 : m4 ≤ 300 := by omega
      have j2 := Lib.hid (sl_ints_ok kS2)
      have j3 := Lib.hid (sl_ins_ok kS3)
      have j4 := Lib.hid (sl_rows_ok kS4)
      have HS := Lib.hid (show x.take (k + 1) = x.take k ++ [(z0, z1, t2, t3, t4)] by rw [List.take_succ_eq_append_getElem hkx, hlc])
      have hlen : (x.take k).length ≤ 1048576 := by simp; omega
      have hlF := ho.lt
      clear hsz l2 l3 l4 hlc
      go_upto_region 5 with fail
      obtain ⟨wS, hwS⟩ : ∃ W, W = wr.alloc (.cells #[.int .i64 z0, .int .i64 z1, .slice D2 m2 d2, .slice D3 m3 d3, .slice D4 m4 d4] 30) := ⟨_, rfl⟩
      have hbS : Below wr.heap.size wr wS := by rw [hwS]; (repeat (first | with_reducible exact Below.refl _ _ | with_reducible assumption | with_reducible refine below_alloc ?_ _ | ((with_reducible refine Below.setCell ?_ ?_ _); rotate_left; (· first | exact Nat.le_refl _ | (simp; done) | (simp; omega))) | with_reducible refine below_drewN ?_ _ | with_reducible refine Below.drew ?_ | with_reducible refine below_then ?_ (by with_reducible assumption)))
      have hSz := hbS.size
      have hSS := Lib.hid (show ∀ V, Below wS.heap.size wS V → V.cell? ⟨wr.heap.size, 0, none⟩ = some (.int .i64 z0) ∧ V.cell? ⟨wr.heap.size, 1, none⟩ = some (.int .i64 z1) ∧ V.cell? ⟨wr.heap.size, 2, none⟩ = some (.slice D2 m2 d2) ∧ V.cell? ⟨wr.heap.size, 3, none⟩ = some (.slice D3 m3 d3) ∧ V.cell? ⟨wr.heap.size, 4, none⟩ = some (.slice D4 m4 d4) from fun V hV => by
        refine ⟨below_cell hV ?_, below_cell hV ?_, below_cell hV ?_, below_cell hV ?_, below_cell hV ?_⟩ <;> (rw [hwS]; simp [go_sem]))
      have nS := below_cell hbS kY
      have nfS := below_frozen hbS (show Y < wr.heap.size by omega) kYf
      have hoS := ho.below hbS
      have hhS : hi ≤ wS.heap.size := by omega
      replace kS2 := kS2.below hbS (by omega)
      replace kS3 := kS3.below hbS (by omega)
      replace kS4 := kS4.below hbS (by omega)
      have hfS : Fr [Y] W0 wS := hf.trans (Fr.of_below hbS)
      rw [← hwS]
      clear hwS v0 v1 v2 v3 v4 ho hf kY kYf
      refine wp_region_noPanic ?_
      refine wp_region_cut (S := (fun V => V.cell? ⟨Y, 0, none⟩ = some v ∧ V.cell? ⟨wr.heap.size, 0, none⟩ = some (.int .i64 z0) ∧ V.cell? ⟨wr.heap.size, 1, none⟩ = some (.int .i64 z1) ∧ V.cell? ⟨wr.heap.size, 2, none⟩ = some (.slice D2 m2 d2) ∧ V.cell? ⟨wr.heap.size, 3, none⟩ = some (.slice D3 m3 d3) ∧ V.cell? ⟨wr.heap.size, 4, none⟩ = some (.slice D4 m4 d4))) 7 (by kernel_rfl) (by kernel_rfl) (⟨nS, hSS.out _ (show Below wS.heap.size wS _ by (repeat (first | with_reducible exact Below.refl _ _ | with_reducible assumption | with_reducible refine below_alloc ?_ _ | ((with_reducible refine Below.setCell ?_ ?_ _); rotate_left; (· first | exact Nat.le_refl _ | (simp; done) | (simp; omega))) | with_reducible refine below_drewN ?_ _ | with_reducible refine Below.drew ?_ | with_reducible refine below_then ?_ (by with_reducible assumption))))⟩) (fun hR0 => ?_)
      simp only [headOps, List.take_succ_cons, List.take_zero]
      refine wpAnyH_take (i := 0) (v := ?_) rfl (by kernel_rfl) (by kernel_rfl) (by kernel_rfl) (fun _ _ _ h => h) (Or.inl ⟨by rfl, ?_⟩) (by assumption) ?_
      rotate_left 1
      · intro w hSw; (try dsimp only at hSw); go_simp; (try with_reducible rfl)
      try simp only [Act.put, List.getElem_toArray, List.getElem_cons_zero, List.getElem_cons_succ, List.setIfInBounds_toArray, List.set_cons_zero, List.set_cons_succ]
      refine wpAnyH_take (i := 1) (v := ?_) rfl (by kernel_rfl) (by kernel_rfl) (by kernel_rfl) (fun _ _ _ h => h) (Or.inl ⟨by rfl, ?_⟩) (by assumption) ?_
      rotate_left 1
      · intro w hSw; (try dsimp only at hSw); go_simp; (try with_reducible rfl)
      try simp only [Act.put, List.getElem_toArray, List.getElem_cons_zero, List.getElem_cons_succ, List.setIfInBounds_toArray, List.set_cons_zero, List.set_cons_succ]
      refine wpAnyH_take (i := 2) (v := ?_) rfl (by kernel_rfl) (by kernel_rfl) (by kernel_rfl) (fun _ _ _ h => h) (Or.inl ⟨by rfl, ?_⟩) (by assumption) ?_
      rotate_left 1
      · intro w hSw; (try dsimp only at hSw); go_simp; (try with_reducible rfl)
      try simp only [Act.put, List.getElem_toArray, List.getElem_cons_zero, List.getElem_cons_succ, List.setIfInBounds_toArray, List.set_cons_zero, List.set_cons_succ]
      refine wpAnyH_ready (rs := [3]) (by kernel_rfl) (by simp) ?_
      refine AllReadyH.cons (i := 3) rfl (fun K hK => ?_) AllReadyH.nil
      go_simp
      go_at_call 161
      ((with_reducible refine (implCloneCode _ lo hi z0 z1 D2 D3 D4 m2 d2 m3 d3 m4 d4 t2 t3 t4 (kS2.below (show Below wS.heap.size wS _ by (repeat (first | with_reducible exact Below.refl _ _ | with_reducible assumption | with_reducible refine below_alloc ?_ _ | ((with_reducible refine Below.setCell ?_ ?_ _); rotate_left; (· first | exact Nat.le_refl _ | (simp; done) | (simp; omega))) | with_reducible refine below_drewN ?_ _ | with_reducible refine Below.drew ?_ | with_reducible refine below_then ?_ (by with_reducible assumption)))) hhS) (kS3.below (show Below wS.heap.size wS _ by (repeat (first | with_reducible exact Below.refl _ _ | with_reducible assumption | with_reducible refine below_alloc ?_ _ | ((with_reducible refine Below.setCell ?_ ?_ _); rotate_left; (· first | exact Nat.le_refl _ | (simp; done) | (simp; omega))) | with_reducible refine below_drewN ?_ _ | with_reducible refine Below.drew ?_ | with_reducible refine below_then ?_ (by with_reducible assumption)))) hhS) (kS4.below (show Below wS.heap.size wS _ by (repeat (first | with_reducible exact Below.refl _ _ | with_reducible assumption | with_reducible refine below_alloc ?_ _ | ((with_reducible refine Below.setCell ?_ ?_ _); rotate_left; (· first | exact Nat.le_refl _ | (simp; done) | (simp; omega))) | with_reducible refine below_drewN ?_ _ | with_reducible refine Below.drew ?_ | with_reducible refine below_then ?_ (by with_reducible assumption)))) hhS) (by first | omega | (simp; done) | (simp; omega)) (by omega) (by omega) (by omega)).mono ?_); rintro e w5 ⟨B2, p2, q2, B3, p3, q3, B4, p4, q4, rfl, hcd, hb5⟩; have b5 : Below wS.heap.size wS w5 := (by (repeat (first | with_reducible exact Below.refl _ _ | with_reducible assumption | with_reducible refine below_alloc ?_ _ | ((with_reducible refine Below.setCell ?_ ?_ _); rotate_left; (· first | exact Nat.le_refl _ | (simp; done) | (simp; omega))) | with_reducible refine below_drewN ?_ _ | with_reducible refine Below.drew ?_ | with_reducible refine below_then ?_ (by with_reducible assumption)))); have z5 := b5.size; have nS5 := below_cell b5 nS; obtain ⟨Fc, hC, hFc⟩ := cd_own hcd i0 i1 j2.out j3.out j4.out)
      go_wp2_with fail
      refine hK.out _ _ (⟨nS5, hSS.out _ b5⟩) (fun hR5 => ?_)
      clear hK K
      try simp only [Act.put, List.getElem_toArray, List.getElem_cons_zero, List.getElem_cons_succ, List.setIfInBounds_toArray, List.set_cons_zero, List.set_cons_succ]
      refine wpAnyH_ready (rs := [4]) (by kernel_rfl) (by simp) ?_
      refine AllReadyH.cons (i := 4) rfl (fun K hK => ?_) AllReadyH.nil
      go_simp
      refine hK.out _ _ (⟨below_cell (show Below w5.heap.size w5 _ by (repeat (first | with_reducible exact Below.refl _ _ | with_reducible assumption | with_reducible refine below_alloc ?_ _ | ((with_reducible refine Below.setCell ?_ ?_ _); rotate_left; (· first | exact Nat.le_refl _ | (simp; done) | (simp; omega))) | with_reducible refine below_drewN ?_ _ | with_reducible refine Below.drew ?_ | with_reducible refine below_then ?_ (by with_reducible assumption)))) nS5, hSS.out _ (show Below wS.heap.size wS _ by (repeat (first | with_reducible exact Below.refl _ _ | with_reducible assumption | with_reducible refine below_alloc ?_ _ | ((with_reducible refine Below.setCell ?_ ?_ _); rotate_left; (· first | exact Nat.le_refl _ | (simp; done) | (simp; omega))) | with_reducible refine below_drewN ?_ _ | with_reducible refine Below.drew ?_ | with_reducible refine below_then ?_ (by with_reducible assumption))))⟩) (fun hR6 => ?_)
      clear hK K
      try simp only [Act.put, List.getElem_toArray, List.getElem_cons_zero, List.getElem_cons_succ, List.setIfInBounds_toArray, List.set_cons_zero, List.set_cons_succ]
      refine wpAnyH_ready (rs := [5]) (by kernel_rfl) (by simp) ?_
      refine AllReadyH.cons (i := 5) rfl (fun K hK => ?_) AllReadyH.nil
      refine step_code w5 (by rfl) _ _ (by rfl) v (x.take k) F (by rfl) (hoS.below b5) z0 z1 B2 B3 B4 p2 q2 p3 q3 p4 q4 (z0, z1, t2, t3, t4) Fc hC (fun u h1 h2 => by (have q1 := (hFc u h1).1; have q2 := hlF u h2; simp only [heap_drew] at q1; omega)) (by rfl) hlen ?_
      intro A8 m8 d8 w8 F8 o8 fr8 hF8
      have nS8 := cell_fr fr8 (fun hm => by have := hF _ hm; omega) nS5
      obtain ⟨p0, p1, p2', p3', p4'⟩ := hSS.out w5 b5
      have k0 := cell_fr fr8 (fun hm => by have := hlF _ hm; omega) p0
      have k1 := cell_fr fr8 (fun hm => by have := hlF _ hm; omega) p1
      have k2 := cell_fr fr8 (fun hm => by have := hlF _ hm; omega) p2'
      have k3 := cell_fr fr8 (fun hm => by have := hlF _ hm; omega) p3'
      have k4 := cell_fr fr8 (fun hm => by have := hlF _ hm; omega) p4'
      have nf8 : w8.frozen? ⟨Y, 0, none⟩ = false := frozen_fr fr8 (fun hm => by have := hF _ hm; omega) (by omega) (below_frozen b5 (show Y < wS.heap.size by omega) nfS)
      clear p0 p1 p2' p3' p4'
      refine hK.out _ _ (⟨nS8, k0, k1, k2, k3, k4⟩) (fun hR7 => ?_)
      clear hK K
      try simp only [Act.put, List.getElem_toArray, List.getElem_cons_zero, List.getElem_cons_succ, List.setIfInBounds_toArray, List.set_cons_zero, List.set_cons_succ]
      refine wpAnyH_take (i := 6) (v := ?_) rfl (by kernel_rfl) (by kernel_rfl) (by kernel_rfl) (fun _ _ _ h => h) (Or.inl ⟨by rfl, ?_⟩) (by assumption) ?_
      rotate_left 1
      · intro w hSw; (try dsimp only at hSw); go_simp; (try with_reducible rfl)
      try simp only [Act.put, List.getElem_toArray, List.getElem_cons_zero, List.getElem_cons_succ, List.setIfInBounds_toArray, List.set_cons_zero, List.set_cons_succ]
      refine wpAnyH_done (by kernel_rfl) ?_ _
      refine lastQ_op rfl (fun K hK => ?_)
      rw [if_pos (by rfl)]
      go_simp
      refine hK _ _ ?_
      clear hK K
      refine NoPanic.normal ?_
      have hF9 : ∀ u, u ∈ F8 → W0.heap.size ≤ u := fun u hu => by
        rcases hF8 u hu with hm | hm | hm
        · exact hF u hm
        · have := (hFc u hm).1; simp only [heap_drew] at this; omega
        · omega
      have ho9 : OwnSl CodeR (w8.setCell ⟨Y, 0, none⟩ (.slice A8 m8 d8)) 30 F8 (.slice A8 m8 d8) (x.take (k + 1)) := by
        rw [HS.out]
        exact o8.keep fun u hu => Below.heap_setCell _ _ _ _ (by have := hF9 u hu; show u ≠ Y; omega)
      have fr9 : Fr [Y] W0 (w8.setCell ⟨Y, 0, none⟩ (.slice A8 m8 d8)) := (fr_new (hfS.trans (Fr.of_below b5)) fr8 hF).setCell (p := ⟨Y, 0, none⟩) (by simp) _
      clear o8 fr8 hF8 hC hFc hcd hoS hfS b5
      go_wp2_with fail
      go_roundw
      case rel => exact ⟨k + 1, _, F8, by omega, by go_num, ho9, hF9, by simp [go_sem, nS8], by simp [go_sem, nf8], fr9⟩
      case measure => simp [intOf]; omega
    · rw [List.take_of_length_le (by have := HL.out; omega)] at ho
      obtain ⟨A9, n9, c9, hv9, h9⟩ := ho.form
      subst hv9
      clear h9
      have g0 := cell_fr hf (by simp; omega) r0
      have gf : ∀ j, wr.frozen? ⟨w.heap.size + 1, j, none⟩ = false := fun j => frozen_fr hf (by simp; omega) (by omega) (rf j)
      have hYr : Y < wr.heap.size := by omega
      clear r0 rf hf
      go_wp2_with fail
      refine bodyPost_ret (v := .agg #[.slice A9 n9 c9]) (by simp [results, Tryz.results100, go_sem, g0, gf]) rfl ?_
      exact ⟨_, _, _, F, rfl, ho.keep fun u hu => (show Fr [w.heap.size + 1] wr _ by (repeat (first | with_reducible exact Fr.refl _ _ | with_reducible assumption | ((with_reducible refine Fr.setCell ?_ ?_ _); rotate_left; (· first | (simp; done) | assumption | (simp; assumption))) | with_reducible refine Fr.drewN ?_ _ | with_reducible refine Fr.drew ?_ | with_reducible refine Fr.alloc ?_ _ | with_reducible refine Fr.trans ?_ (Fr.of_below (by with_reducible assumption))))).block u (ho.lt u hu) (by have := hF u hu; simp; omega), fun u hu => by have := hF u hu; omega, by (repeat (first | with_reducible exact Below.refl _ _ | with_reducible assumption | with_reducible refine below_alloc ?_ _ | ((with_reducible refine Below.setCell ?_ ?_ _); rotate_left; (· first | exact Nat.le_refl _ | (simp; done) | (simp; omega))) | with_reducible refine below_drewN ?_ _ | with_reducible refine Below.drew ?_ | with_reducible refine below_then ?_ (by with_reducible assumption)))⟩
end Go.Proofs.YtmnkgcjbckamnaaGreat
