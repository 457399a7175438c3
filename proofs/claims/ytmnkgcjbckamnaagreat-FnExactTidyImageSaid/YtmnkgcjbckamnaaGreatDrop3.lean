/- What is left of a code without what is not reached: the reference's walk. -/
import Derived.Test.YtmnkgcjbckamnaaGreatDrop2
import Derived.Test.YtmnkgcjbckamnaaGreatOwnI
import Derived.Deep.DeepCutAuto
import Derived.Deep.RegionHeld3
import Derived.Deep.QuietTactic
import Derived.BigQuiet
import Derived.BigGuardPart
set_option linter.unusedVariables false
set_option linter.unusedSimpArgs false
set_option maxRecDepth 100000
namespace Go.Proofs.YtmnkgcjbckamnaaGreat
open Go.RowKit
attribute [local irreducible] wpList
/-- The places after k rounds: the rest is 0. -/
def plK (h : List Int) (n k : Nat) : List Int := places h (k + 1) ++ List.replicate (n - k) 0
theorem plK_len {h : List Int} {n k : Nat} (hk : k ≤ n) : (plK h n k).length = n + 1 := by
  unfold plK; rw [List.length_append, places_len, List.length_replicate]; omega
theorem plK_0 (h : List Int) (n : Nat) : List.replicate (n + 1) 0 = plK h n 0 := by
  unfold plK places; simp [List.replicate_succ, plN_0]
theorem plK_at {h : List Int} {n k : Nat} (hk : k ≤ n) : (plK h n k)[k]'(by rw [plK_len hk]; omega) = (plN h k : Int) := by
  unfold plK
  rw [List.getElem_append_left (by rw [places_len]; omega), places_at (by omega)]
theorem plK_set {h : List Int} {n k : Nat} (hk : k < n) {v : Int} (hv : v = (plN h (k + 1) : Int)) : (plK h n k).set (k + 1) v = plK h n (k + 1) := by
  subst hv
  unfold plK
  rw [List.set_append_right _ _ (by rw [places_len]; omega), places_len, Nat.sub_self, show n - k = (n - (k + 1)) + 1 by omega, List.replicate_succ, List.set_cons_zero, places_succ h (k + 1), List.append_assoc]
  rfl
theorem plK_all (h : List Int) (n : Nat) : plK h n n = places h (n + 1) := by unfold plK; simp
theorem patI_10 {h : List Int} {q : Nat} : patI h (10, (q : Int)) = (10, (plN h q : Int)) := patI_jump rfl
theorem isJ_no {o : Int} (h1 : (o == 10) = false) (h2 : (o == 11) = false) : isJ o = false := by unfold isJ; rw [h1, h2]; rfl
theorem isJ_yes1 {o : Int} (h1 : (o == 10) = true) : isJ o = true := by unfold isJ; rw [h1]; rfl
theorem isJ_yes2 {o : Int} (h2 : (o == 11) = true) : isJ o = true := by unfold isJ; rw [h2]; simp
theorem madeInts0 (n : Nat) : (madeCells #[Value.int IntKind.i64 0] n).toList = List.replicate n (Value.int .i64 0) := toList_madeCells_one _ _
theorem own_base {w : World} {e : TypeId} {size n m c g b : Nat} {xs : List Value} (h : w.ownsRow 0 e size (.slice (some ⟨g, 0, none⟩) m c) n xs) (hb : b ≤ g) : w.ownsRow b e size (.slice (some ⟨g, 0, none⟩) m c) n xs := by
  refine ⟨h.1, ?_⟩
  rcases h.2 with h | ⟨g', cap, cur, a, _, r⟩
  · exact .inl h
  · injection a with a1 a2 a3
    injection a1 with a1
    injection a1 with a1
    subst a1 a2 a3
    exact .inr ⟨_, _, cur, rfl, hb, r⟩
set_option maxHeartbeats 16000000 in
theorem specL13Drop1 (w : World) (lo hi : Nat) (A : Option Addr) (n c : Nat) (x : List Code) (h : Sl CodeR w lo hi A n c x) (hh : hi ≤ w.heap.size) (hz : ∀ c ∈ x, codeSz c = true)
    (z0 z1 : Int) (D2 D3 D4 : Option Addr) (m2 d2 n5 d3 m4 d4 : Nat) (t2 : List Int) (t3 : List Ins) (t4 : List Row) (kS2 : Sl intR w lo hi D2 m2 d2 t2) (kS3 : Sl InsR w lo hi D3 n5 d3 t3) (kS4 : Sl RowR w lo hi D4 m4 d4 t4) (hsc : codeSz (z0, z1, t2, t3, t4) = true) (hc : codeF x (z0, z1, t2, t3, t4) = 0) (H : List Int) (hH : checkH x (z0, z1, t2, t3, t4) = H) :
    Calls Tryz.prog 43 #[.agg #[.slice A n c], .agg #[.int .i64 z0, .int .i64 z1, .slice D2 m2 d2, .slice D3 n5 d3, .slice D4 m4 d4]] w (RetCd z0 z1 t2 (dropK (patI H) t3 H t3.length) (dropRows H t4) w) := by
  have hsz := codeSz_len hsc
  have hsa := codeSz_all hsc
  have hln := checkH_len hc
  obtain ⟨hnm, hgo, hrw, l, hl1, hl2⟩ := codeF_0 hc
  have h7 := named_7 hnm hsa.2.2.2.2.2
  rw [hH] at hln hl2
  subst hl2
  simp only at hsz hln hgo hrw hl1 h7
  have HLx := h.lenEq
  have l2 := kS2.lenEq
  have l3 := kS3.lenEq
  have l4 := kS4.lenEq
  have hn1 : 1 ≤ n5 := by omega
  have hn2 : m2 ≤ 4 := by omega
  have hn3 : n5 ≤ 300 := by omega
  have hn4 : m4 ≤ 300 := by omega
  have hHL := Lib.hid (show H.length = n5 by omega)
  have hL5 := hHL
  have L3 := Lib.hid l3
  have L4 := Lib.hid l4
  have hl64 := Lib.hid hln.2
  have HGO := Lib.hid hgo
  have HRW := Lib.hid hrw
  have HRW5 := Lib.hid (show rowsB t4 n5 = true by rw [← l3]; exact hrw)
  have h7' := Lib.hid (show ∀ i, i ∈ t3 → i.1 = 7 → 0 ≤ i.2 ∧ i.2 < n from fun i hi e => by rw [← HLx]; exact h7 i hi e)
  have hp := Lib.hid (fun c (hc : c ∈ x) => (codeSz_all (hz c hc)).1)
  have hl1 := Lib.hid hl1
  obtain ⟨i0, hi0, hz0, hz1, hz2⟩ := info_parts Tryz.infoInt
  clear hsz hsa hln hgo hrw l2 l3 l4 hz hc hH hnm h7 HLx
  go_enter Tryz.func43, Tryz.ntmps43
  go_upto_region 1 with fail
  obtain ⟨V, hV⟩ : ∃ V, V = ((w.alloc (.cells #[.slice A n c] 35)).alloc (.cells #[.int .i64 z0, .int .i64 z1, .slice D2 m2 d2, .slice D3 n5 d3, .slice D4 m4 d4] 30)).alloc (.cells #[.int .i64 0, .int .i64 0, .slice none 0 0, .slice none 0 0, .slice none 0 0] 30) := ⟨_, rfl⟩
  have hbV : Below w.heap.size w V := by rw [hV]; (repeat (first | with_reducible exact Below.refl _ _ | with_reducible assumption | with_reducible refine below_alloc ?_ _ | ((with_reducible refine Below.setCell ?_ ?_ _); rotate_left; (· first | exact Nat.le_refl _ | (simp; done) | (simp; omega))) | with_reducible refine below_drewN ?_ _ | with_reducible refine Below.drew ?_ | with_reducible refine below_then ?_ (by with_reducible assumption)))
  have hzV : w.heap.size + 3 ≤ V.heap.size := by rw [hV]; simp
  have hX := Lib.hid (show ∀ V' G, Fr G V V' → (∀ g, g ∈ G → V.heap.size ≤ g) → V'.cell? ⟨w.heap.size, 0, none⟩ = some (.slice A n c) ∧ V'.cell? ⟨w.heap.size + 1, 0, none⟩ = some (.int .i64 z0) ∧ V'.cell? ⟨w.heap.size + 1, 1, none⟩ = some (.int .i64 z1) ∧ V'.cell? ⟨w.heap.size + 1, 2, none⟩ = some (.slice D2 m2 d2) ∧ V'.cell? ⟨w.heap.size + 1, 3, none⟩ = some (.slice D3 n5 d3) ∧ V'.cell? ⟨w.heap.size + 1, 4, none⟩ = some (.slice D4 m4 d4) from (fun V' G hV' hG => by
    refine ⟨cell_fr hV' (fun hm => by have := hG _ hm; omega) ?_, cell_fr hV' (fun hm => by have := hG _ hm; omega) ?_, cell_fr hV' (fun hm => by have := hG _ hm; omega) ?_, cell_fr hV' (fun hm => by have := hG _ hm; omega) ?_, cell_fr hV' (fun hm => by have := hG _ hm; omega) ?_, cell_fr hV' (fun hm => by have := hG _ hm; omega) ?_⟩ <;> (rw [hV]; simp [go_sem])))
  have hR := Lib.hid (show ∀ V' G, Fr G V V' → (∀ g, g ∈ G → V.heap.size ≤ g) → V'.cell? ⟨w.heap.size + 1 + 1, 0, none⟩ = some (.int .i64 0) ∧ V'.cell? ⟨w.heap.size + 1 + 1, 1, none⟩ = some (.int .i64 0) ∧ V'.cell? ⟨w.heap.size + 1 + 1, 2, none⟩ = some (.slice none 0 0) ∧ V'.cell? ⟨w.heap.size + 1 + 1, 3, none⟩ = some (.slice none 0 0) ∧ V'.cell? ⟨w.heap.size + 1 + 1, 4, none⟩ = some (.slice none 0 0) ∧ ∀ i, V'.frozen? ⟨w.heap.size + 1 + 1, i, none⟩ = false from (fun V' G hV' hG => by
    refine ⟨cell_fr hV' (fun hm => by have := hG _ hm; omega) ?_, cell_fr hV' (fun hm => by have := hG _ hm; omega) ?_, cell_fr hV' (fun hm => by have := hG _ hm; omega) ?_, cell_fr hV' (fun hm => by have := hG _ hm; omega) ?_, cell_fr hV' (fun hm => by have := hG _ hm; omega) ?_, fun i => frozen_fr hV' (fun hm => by have := hG _ hm; omega) (by omega) ?_⟩ <;> (rw [hV]; simp [go_sem])))
  rw [← hV]
  clear hV
  obtain ⟨sx, s0, s1, s2, s3, s4⟩ := hX.out V [] (Fr.refl _ _) (by simp)
  go_wp2_with fail
  refine (specL5Heights _ lo hi A n c x z0 z1 D2 D3 D4 m2 d2 n5 d3 m4 d4 t3 t4 (h.below hbV hh) (kS3.below hbV hh) (kS4.below hbV hh) (by omega) hn1 hn3 hp.out h7'.out HGO.out HRW5.out).mono ?_
  rintro e w3 ⟨A5, n5', c5, rfl, hI, hb3⟩
  rw [hl1.out] at hI
  simp only [Option.getD_some, hl1.out, Option.isSome_some] at hI ⊢
  have hS := hI.sl hl64.out
  obtain rfl : n5' = n5 := by have := hS.lenEq; have := hHL.out; omega
  clear hI sx s0 s1 s2 s3 s4
  have hz3 := hb3.size
  obtain ⟨sx, s0, s1, s2, s3, s4⟩ := hX.out w3 [] (Fr.of_below hb3) (by simp)
  go_wp2_with (at_make; refine wpList_make_full _ rfl _ _ 26 rfl 0 3 i0 (.int .i64 0) 1 Tryz.underlying26 hi0 hz0 hz1 _ _ _ _ (n5' + 1) rfl rfl rfl rfl (by rw [hz2]; omega) (by unfold maxLen; omega) (Nat.zero_le _) ?_)
  intro w4 hown hg
  have hb4 : Below w3.heap.size w3 w4 := (Below.refl _ _).grown hg (Nat.le_refl _) (fun k hk => by cases hk)
  obtain ⟨gp, hgp⟩ : ∃ g, g = w3.heap.size := ⟨_, rfl⟩
  rw [← hgp] at hown ⊢
  have hP0 : IntRow w4 gp (.slice (some ⟨gp, 0, none⟩) (n5' + 1) (n5' + 1)) (plK H n5' 0) := by
    have hm : (madeCells #[Value.int IntKind.i64 0] (n5' + 1)).toList = (plK H n5' 0).map (Value.int .i64) := by
      rw [← plK_0, List.map_replicate]
      exact madeInts0 (n5' + 1)
    rw [hm] at hown
    have h1 : (plK H n5' 0).length = n5' + 1 := plK_len (Nat.zero_le _)
    unfold IntRow
    rw [h1]
    exact own_base hown (Nat.le_refl _)
  have hgw := (World.ownsRow.lt hP0 gp rfl).2
  have hgV : V.heap.size ≤ gp := by omega
  have hw3g : w3.heap.size ≤ gp := by omega
  have hx4 : Below V.heap.size V w4 := hb3.trans (hb4.mono hz3)
  have hS4 := hS.below hb4 (Nat.le_refl _)
  clear hown hg sx s0 s1 s2 s3 s4 hgp
  obtain ⟨sx, s0, s1, s2, s3, s4⟩ := hX.out w4 [] (Fr.of_below hx4) (by simp)
  go_wp2_with fail
  clear sx s0 s1 s2 s3 s4
  go_loopw [29] (fun i wr => ∃ k : Nat, k ≤ n5' ∧ i = .int .i64 k ∧ IntRow wr gp (.slice (some ⟨gp, 0, none⟩) (n5' + 1) (n5' + 1)) (plK H n5' k) ∧ Fr [gp] w4 wr) (fun i _ => n5' - (intOf i).toNat)
  case atStart => exact ⟨0, Nat.zero_le _, rfl, hP0, Fr.refl _ _⟩
  case round =>
    clear hP0
    obtain ⟨k, hk, rfl, hP, hf⟩ := hrel
    have hfz := hf.size
    have hSr := hS4.fr hf (by omega) (by first | omega | (simp; done) | (simp; omega))
    by_cases hlt : k < n5'
    · obtain ⟨bh, oh, rfl, _, hbhl, hch, _⟩ := hSr.int_at hlt
      have hkH : k < H.length := by have := hL5.out; omega
      obtain ⟨hv, HV⟩ : ∃ v, H[k]'hkH = v := ⟨_, rfl⟩
      rw [HV] at hch
      have hpk := plK_len (h := H) hk
      have r0 := hP.at_ (show k < (plK H n5' k).length by omega)
      rw [plK_at hk] at r0
      have r1 := hP.at_ (show k + 1 < (plK H n5' k).length by omega)
      obtain ⟨u1, hu1⟩ : ∃ u, (plK H n5' k)[k + 1]'(by omega) = u := ⟨_, rfl⟩
      rw [hu1] at r1
      have hP' := hP
      unfold IntRow at hP'
      rw [hpk] at hP'
      have fz := World.ownsRow.frozenAt hP' (k + 1)
      clear hP'
      have hgr : gp < wr.heap.size := by omega
      have hple := plN_le H k
      have hkI : (k : Int) < (n5' : Int) + 1 := by omega
      have hkI1 : (k : Int) + 1 < (n5' : Int) + 1 := by omega
      have e1w : IntKind.i64.wrap ((k : Int) + 1) = (k : Int) + 1 := IntWalk.i64_in _ (by omega)
      have e2w : IntKind.i64.wrap ((plN H k : Int) + 1) = (plN H k : Int) + 1 := IntWalk.i64_in _ (by omega)
      clear hu1
      by_cases hp0 : 0 ≤ hv
      · have hdec : decide (hv ≥ 0) = true := by simpa using hp0
        have hpl : plN H (k + 1) = plN H k + 1 := by rw [plN_step hkH, HV, if_pos hp0]
        have h1 := hP.put (k + 1) (plN H k : Int)
        have h2 := h1.put (k + 1) ((plN H k : Int) + 1)
        rw [List.set_set, plK_set hlt (by rw [hpl]; rfl)] at h2
        clear hpl h1
        go_wp2_with fail
        go_roundw
        case rel => exact ⟨k + 1, by omega, by go_num, h2, by (repeat (first | with_reducible exact Fr.refl _ _ | with_reducible assumption | ((with_reducible refine Fr.setCell ?_ ?_ _); rotate_left; (· first | (simp; done) | assumption | (simp; assumption))) | with_reducible refine Fr.drewN ?_ _ | with_reducible refine Fr.drew ?_ | with_reducible refine Fr.alloc ?_ _ | with_reducible refine Fr.trans ?_ (Fr.of_below (by with_reducible assumption))))⟩
        case measure => simp [intOf]; omega
      · have hdec : decide (hv ≥ 0) = false := by simpa using hp0
        have hpl : plN H (k + 1) = plN H k := by rw [plN_step hkH, HV, if_neg hp0, Nat.add_zero]
        have h2 := hP.put (k + 1) (plN H k : Int)
        rw [plK_set hlt (by rw [hpl])] at h2
        clear hpl
        go_wp2_with fail
        go_roundw
        case rel => exact ⟨k + 1, by omega, by go_num, h2, by (repeat (first | with_reducible exact Fr.refl _ _ | with_reducible assumption | ((with_reducible refine Fr.setCell ?_ ?_ _); rotate_left; (· first | (simp; done) | assumption | (simp; assumption))) | with_reducible refine Fr.drewN ?_ _ | with_reducible refine Fr.drew ?_ | with_reducible refine Fr.alloc ?_ _ | with_reducible refine Fr.trans ?_ (Fr.of_below (by with_reducible assumption))))⟩
        case measure => simp [intOf]; omega
    · obtain rfl : k = n5' := by omega
      rw [plK_all] at hP
      obtain ⟨wo, hwo⟩ : ∃ wo, wo = wr := ⟨_, rfl⟩
      subst hwo
      have hxo : Below V.heap.size V wo := below_fr hx4 hf (by first | omega | (simp; done) | (simp; omega))
      have hbo := below_then hbV hxo
      have hzo := hxo.size
      obtain ⟨sx, s0, s1, s2, s3, s4⟩ := hX.out wo [] (Fr.of_below hxo) (by simp)
      have hS4s := Lib.hid (show ∀ V', Below wo.heap.size wo V' → V'.cell? ⟨w.heap.size + 1, 0, none⟩ = some (.int .i64 z0) ∧ V'.cell? ⟨w.heap.size + 1, 1, none⟩ = some (.int .i64 z1) ∧ V'.cell? ⟨w.heap.size + 1, 2, none⟩ = some (.slice D2 m2 d2) from fun V' hV => ⟨below_cell hV s0, below_cell hV s1, below_cell hV s2⟩)
      have hgo : gp < wo.heap.size := by omega
      clear hf sx s3 s4
      go_upto_region 10 with fail
      go_cut [9] (fun s wx => ∃ X A n2' c2', s = .pointer (some ⟨X, 0, none⟩) ∧ DSt wx wo.heap.size X z0 z1 (.slice A n2' c2') (.slice none 0 0) (.slice none 0 0) t2 [] [] ∧ Below wo.heap.size wo wx)
      case first =>
        as_aux_lemma =>
          go_region_held3 (fun V' => V'.cell? ⟨w.heap.size + 1, 0, none⟩ = some (.int .i64 z0) ∧ V'.cell? ⟨w.heap.size + 1, 1, none⟩ = some (.int .i64 z1) ∧ V'.cell? ⟨w.heap.size + 1, 2, none⟩ = some (.slice D2 m2 d2)) (exact hS4s.out _ (show Below wo.heap.size wo _ by (repeat (first | with_reducible exact Below.refl _ _ | with_reducible assumption | with_reducible refine below_alloc ?_ _ | ((with_reducible refine Below.setCell ?_ ?_ _); rotate_left; (· first | exact Nat.le_refl _ | omega | (simp; done) | (simp; omega))) | with_reducible refine below_drewN ?_ _ | with_reducible refine Below.drew ?_ | with_reducible refine below_then ?_ (by with_reducible assumption)))))
            (first | (go_at_call 91; ((with_reducible refine (specL1Own _ lo hi D2 m2 d2 t2 (kS2.below (below_then hbo (show Below wo.heap.size wo _ by (repeat (first | with_reducible exact Below.refl _ _ | with_reducible assumption | with_reducible refine below_alloc ?_ _ | ((with_reducible refine Below.setCell ?_ ?_ _); rotate_left; (· first | exact Nat.le_refl _ | (simp; done) | (simp; omega))) | with_reducible refine below_drewN ?_ _ | with_reducible refine Below.drew ?_ | with_reducible refine below_then ?_ (by with_reducible assumption))))) hh) (by first | omega | (simp; done) | (simp; omega)) (by omega)).mono ?_); rintro e w5 ⟨v2, rfl, r2, b2⟩; have bb : Below wo.heap.size wo w5 := (by (repeat (first | with_reducible exact Below.refl _ _ | with_reducible assumption | with_reducible refine below_alloc ?_ _ | ((with_reducible refine Below.setCell ?_ ?_ _); rotate_left; (· first | exact Nat.le_refl _ | (simp; done) | (simp; omega))) | with_reducible refine below_drewN ?_ _ | with_reducible refine Below.drew ?_ | with_reducible refine below_then ?_ (by with_reducible assumption)))); have z5 := bb.size; obtain ⟨A6, n6, c6, rfl, m6⟩ := r2.form; clear m6; (first | (have xa := below_at b2 (by simp) (alloc_new' (w := wo.drew) (X := wo.heap.size) rfl); obtain ⟨e0, e1, e2, e3, e4⟩ := five_cells xa; have xf := blk_frozen xa; have xz := blk_size xa) | skip))))
          · go_wp2_with fail
            go_meet
            case rel => exact ⟨_, _, _, _, rfl, DSt.new (B := wo.heap.size) rfl z5 r2, by (repeat (first | with_reducible exact Below.refl _ _ | with_reducible assumption | with_reducible refine below_alloc ?_ _ | ((with_reducible refine Below.setCell ?_ ?_ _); rotate_left; (· first | exact Nat.le_refl _ | omega | (simp; done) | (simp; omega))) | with_reducible refine below_drewN ?_ _ | with_reducible refine Below.drew ?_ | with_reducible refine below_then ?_ (by with_reducible assumption)))⟩
          · have r3 := r2.mono (b' := wo.heap.size + 1) (by simp)
            go_wp2_with fail
            go_meet
            case rel => exact ⟨_, _, _, _, rfl, DSt.new2 e0 e1 e2 e3 e4 xf (Nat.le_refl _) (Nat.lt_succ_self _) r3, by (repeat (first | with_reducible exact Below.refl _ _ | with_reducible assumption | with_reducible refine below_alloc ?_ _ | ((with_reducible refine Below.setCell ?_ ?_ _); rotate_left; (· first | exact Nat.le_refl _ | omega | (simp; done) | (simp; omega))) | with_reducible refine below_drewN ?_ _ | with_reducible refine Below.drew ?_ | with_reducible refine below_then ?_ (by with_reducible assumption)))⟩
      case rest =>
        as_aux_lemma =>
          obtain ⟨X, A6, n6, c6, rfl, hD, hbc⟩ := hcut
          have hxc := below_then hxo hbc
          have hSc := hSr.below hbc (by omega)
          have hOc : OwnSl intR wc 3 [gp] (.slice (some ⟨gp, 0, none⟩) (k + 1) (k + 1)) (places H (k + 1)) := own_ints (hP.below hbc) (places_I64 (by omega))
          have hzc := hbc.size
          have hXB := hD.hB
          have hXc := hD.lt
          clear hP hS4s hSr s0 s1 s2
          obtain ⟨sx, s0, s1, s2, s3, s4⟩ := hX.out wc [] (Fr.of_below hxc) (by simp)
          go_wp2_with fail
          clear sx s0 s1 s2 s3 s4
          go_loopw [64] (fun i wr => ∃ (r : Nat) (A7 : Option Addr) (c7 : Nat), r ≤ k ∧ i = .int .i64 r ∧ DSt wr wo.heap.size X z0 z1 (.slice A6 n6 c6) (.slice A7 (plN H r) c7) (.slice none 0 0) t2 (dropK (patI H) t3 H r) [] ∧ (∀ g, (Value.slice A7 (plN H r) c7).ownBlock = some g → wc.heap.size ≤ g) ∧ Fr [X] wc wr) (fun i _ => k - (intOf i).toNat)
          case atStart => exact ⟨0, none, 0, Nat.zero_le _, rfl, hD, (fun g h => by cases h), Fr.refl _ _⟩
          case round =>
            clear hD
            obtain ⟨r, A7, c7, hr, rfl, hD, hg7, hf⟩ := hrel
            have hXr := hD.lt
            have hfz := hf.size
            have hbw : Below w.heap.size w wr := below_fr (below_then hbV hxc) hf (by first | omega | (simp; done) | (simp; omega))
            have hSr := hSc.fr hf (by omega) (by first | omega | (simp; done) | (simp; omega))
            have hO := hOc.fr hf (fun u hu hu' => by simp at hu hu'; omega)
            by_cases hlt : r < k
            · obtain ⟨b3, o3, y0, y1, rfl, _, hb3l, hli, _, _, r0, r1⟩ := Ins_at (kS3.below hbw hh) hlt
              obtain ⟨bh, oh, rfl, _, hbhl, hch, _⟩ := hSr.int_at hlt
              have hkH : r < H.length := by have := hL5.out; omega
              have hkt : r < t3.length := by have := L3.out; omega
              have hli' := Lib.hid (show t3[r]'hkt = (y0, y1) from hli)
              obtain ⟨hv, HV⟩ : ∃ v, H[r]'hkH = v := ⟨_, rfl⟩
              rw [HV] at hch
              have c3 := hD.k3
              have hgr : gp < wr.heap.size := by omega
              have hbhw : bh < wr.heap.size := by omega
              by_cases hp0 : 0 ≤ hv
              · have hdec : decide (hv < 0) = false := by simp; omega
                obtain ⟨⟨p0, p1⟩, HP⟩ : ∃ p, patI H (y0, y1) = p := ⟨_, rfl⟩
                have HPL := Lib.hid (show plN H (r + 1) = plN H r + 1 by rw [plN_step hkH, HV, if_pos hp0])
                have HDK := Lib.hid (show dropK (patI H) t3 H (r + 1) = dropK (patI H) t3 H r ++ [(p0, p1)] by
                  rw [dropK_yes (by have := hL5.out; have := L3.out; omega) hkt (by rw [HV]; exact hp0), hli'.out, HP])
                have hdl := dropK_len (g := patI H) (h := H) (I := t3) (by have := hL5.out; have := L3.out; omega) r (by omega)
                have hple := plN_le H r
                obtain ⟨inf, hif, hy0, hy1, hy2⟩ := info_parts Tryz.infoIns2
                replace HP := Lib.hid HP
                obtain ⟨a0, E0⟩ : ∃ a, (y0 == 10) = a := ⟨_, rfl⟩
                obtain ⟨a1, E1⟩ : ∃ a, (y0 == 11) = a := ⟨_, rfl⟩
                have HJ := Lib.hid (fun (hj : isJ y0 = true) => jump_in HGO.out hkt (by rw [hli'.out]; exact hj))
                clear hli HV
                cases a0
                · cases a1
                  · obtain ⟨rfl, rfl⟩ : p0 = y0 ∧ p1 = y1 := by have := HP.out; rw [patI_no (isJ_no E0 E1)] at this; injection this with a b; exact ⟨a.symm, b.symm⟩
                    go_upto_region 17 with fail
                    obtain ⟨W2, hW2⟩ : ∃ W2, W2 = wr.alloc (.cells #[.int .i64 p0, .int .i64 p1] 119) := ⟨_, rfl⟩
                    have hbW2 : Below wr.heap.size wr W2 := by rw [hW2]; (repeat (first | with_reducible exact Below.refl _ _ | with_reducible assumption | with_reducible refine below_alloc ?_ _ | ((with_reducible refine Below.setCell ?_ ?_ _); rotate_left; (· first | exact Nat.le_refl _ | omega | (simp; done) | (simp; omega))) | with_reducible refine below_drewN ?_ _ | with_reducible refine Below.drew ?_ | with_reducible refine below_then ?_ (by with_reducible assumption)))
                    have hz2' : wr.heap.size < W2.heap.size := by rw [hW2]; simp [World.setCell]
                    have hD2 := hD.below hbW2
                    have hf3 : Fr [X] wc W2 := hf.trans (Fr.of_below hbW2)
                    have e0 : W2.cell? ⟨wr.heap.size, 0, none⟩ = some (.int .i64 p0) := by rw [hW2]; simp [go_sem, World.setCell]
                    have e1 : W2.cell? ⟨wr.heap.size, 1, none⟩ = some (.int .i64 p1) := by rw [hW2]; simp [go_sem, World.setCell]
                    rw [← hW2]
                    clear hW2 hD hf hbW2 r0 r1 hch c3
                    have c3 := hD2.k3
                    have hown0 : W2.ownsRow wo.heap.size 119 2 (.slice A7 (plN H r) c7) (dropK (patI H) t3 H r).length (encL insV (dropK (patI H) t3 H r)) := hD2.cd.r3
                    go_wp2_with (at_builtin; refine wpList_append_src _ rfl _ _ 27 rfl wo.heap.size 119 inf (.agg #[.int .i64 0, .int .i64 0]) 2 16 Tryz.underlying27 hif hy0 hy1 hy2 rfl (by decide) _ _ _ rfl (hown0.alloc _) (some ⟨W2.heap.size, 0, none⟩) 1 1 [.int .i64 p0, .int .i64 p1] rfl (src_new rfl rfl) (by simp [Value.oneCell']) (by unfold maxLen; omega) (by omega) (by simp; omega) ?_)
                    intro v' w5 hown hgr' hat
                    have hr' : InsRow w5 wo.heap.size v' (dropK (patI H) t3 H (r + 1)) := by
                      unfold InsRow
                      rw [HDK.out, List.length_append, hdl, encL_append]; exact hown
                    obtain ⟨A8, n8, c8, rfl, h8⟩ := hr'.form
                    obtain rfl : n8 = plN H (r + 1) := by rw [h8, HDK.out, List.length_append, hdl, HPL.out]; rfl
                    have hbX : w5.heap[X]? = W2.heap[X]? := (hgr'.block X (by simp; omega) (fun e => hD2.n3 e.symm)).trans (alloc_lt hD2.lt)
                    have c3' := cell_same0 hbX hD2.k3
                    have c3f := (World.frozen?_of_block (w := W2) (a := ⟨X, 3, none⟩) hbX).trans (hD2.kf 3)
                    have hD5 := hD2.put3 (wm := W2.alloc (.cells #[.int .i64 p0, .int .i64 p1] 119)) (fun q _ h2 => alloc_lt h2) (by simp) hgr' hr' (by rw [size_alloc]; exact hat)
                    have hf5 : Fr [X] wc (w5.setCell ⟨X, 3, none⟩ (.slice A8 (plN H (r + 1)) c8)) := put_fr (v := .slice A7 (plN H r) c7) hf3 (show Fr [X] W2 (W2.alloc (.cells #[.int .i64 p0, .int .i64 p1] 119)) by (repeat (first | with_reducible exact Fr.refl _ _ | with_reducible assumption | ((with_reducible refine Fr.setCell ?_ ?_ _); rotate_left; (· first | (simp; done) | assumption | (simp; assumption))) | with_reducible refine Fr.drewN ?_ _ | with_reducible refine Fr.drew ?_ | with_reducible refine Fr.alloc ?_ _ | with_reducible refine Fr.trans ?_ (Fr.of_below (by with_reducible assumption))))) hgr' hg7 (by simp)
                    have hg8 : ∀ g, (Value.slice A8 (plN H (r + 1)) c8).ownBlock = some g → wc.heap.size ≤ g := by
                      intro g e
                      rcases hat with hat | hat
                      · exact hg7 g (by rw [← hat]; exact e)
                      · rw [hat] at e; injection e with e; have := hf3.size; omega
                    clear hown hgr' hat hown0 hD2 hf3 hg7 hr' h8 hbX hdl c3 e0 e1
                    go_wp2_with fail
                    go_roundw
                    case rel => exact ⟨r + 1, A8, c8, by omega, by go_num, hD5, hg8, hf5⟩
                    case measure => simp [intOf]; omega
                  · have hj : isJ y0 = true := isJ_yes2 E1
                    have hin := HJ.out hj
                    rw [hli'.out, L3.out] at hin
                    simp only at hin
                    obtain ⟨q1, rfl⟩ : ∃ q1 : Nat, y1 = (q1 : Int) := ⟨y1.toNat, by omega⟩
                    have hq1 : q1 < k + 1 := by omega
                    have hq1I : (q1 : Int) < (k : Int) + 1 := by omega
                    have hpc := places_cell hO hq1
                    obtain ⟨rfl, hp1e⟩ : p0 = y0 ∧ p1 = (plN H q1 : Int) := by have := HP.out; rw [patI_jump hj] at this; injection this with a b; exact ⟨a.symm, b.symm⟩
                    subst hp1e
                    clear hin hj
                    go_upto_region 17 with fail
                    obtain ⟨W2, hW2⟩ : ∃ W2, W2 = wr.alloc (.cells #[.int .i64 p0, .int .i64 (plN H q1)] 119) := ⟨_, rfl⟩
                    have hbW2 : Below wr.heap.size wr W2 := by rw [hW2]; (repeat (first | with_reducible exact Below.refl _ _ | with_reducible assumption | with_reducible refine below_alloc ?_ _ | ((with_reducible refine Below.setCell ?_ ?_ _); rotate_left; (· first | exact Nat.le_refl _ | omega | (simp; done) | (simp; omega))) | with_reducible refine below_drewN ?_ _ | with_reducible refine Below.drew ?_ | with_reducible refine below_then ?_ (by with_reducible assumption)))
                    have hz2' : wr.heap.size < W2.heap.size := by rw [hW2]; simp [World.setCell]
                    have hD2 := hD.below hbW2
                    have hf3 : Fr [X] wc W2 := hf.trans (Fr.of_below hbW2)
                    have e0 : W2.cell? ⟨wr.heap.size, 0, none⟩ = some (.int .i64 p0) := by rw [hW2]; simp [go_sem, World.setCell]
                    have e1 : W2.cell? ⟨wr.heap.size, 1, none⟩ = some (.int .i64 (plN H q1)) := by rw [hW2]; simp [go_sem, World.setCell]
                    rw [← hW2]
                    clear hW2 hD hf hbW2 r0 r1 hch c3
                    have c3 := hD2.k3
                    have hown0 : W2.ownsRow wo.heap.size 119 2 (.slice A7 (plN H r) c7) (dropK (patI H) t3 H r).length (encL insV (dropK (patI H) t3 H r)) := hD2.cd.r3
                    go_wp2_with (at_builtin; refine wpList_append_src _ rfl _ _ 27 rfl wo.heap.size 119 inf (.agg #[.int .i64 0, .int .i64 0]) 2 16 Tryz.underlying27 hif hy0 hy1 hy2 rfl (by decide) _ _ _ rfl (hown0.alloc _) (some ⟨W2.heap.size, 0, none⟩) 1 1 [.int .i64 p0, .int .i64 (plN H q1)] rfl (src_new rfl rfl) (by simp [Value.oneCell']) (by unfold maxLen; omega) (by omega) (by simp; omega) ?_)
                    intro v' w5 hown hgr' hat
                    have hr' : InsRow w5 wo.heap.size v' (dropK (patI H) t3 H (r + 1)) := by
                      unfold InsRow
                      rw [HDK.out, List.length_append, hdl, encL_append]; exact hown
                    obtain ⟨A8, n8, c8, rfl, h8⟩ := hr'.form
                    obtain rfl : n8 = plN H (r + 1) := by rw [h8, HDK.out, List.length_append, hdl, HPL.out]; rfl
                    have hbX : w5.heap[X]? = W2.heap[X]? := (hgr'.block X (by simp; omega) (fun e => hD2.n3 e.symm)).trans (alloc_lt hD2.lt)
                    have c3' := cell_same0 hbX hD2.k3
                    have c3f := (World.frozen?_of_block (w := W2) (a := ⟨X, 3, none⟩) hbX).trans (hD2.kf 3)
                    have hD5 := hD2.put3 (wm := W2.alloc (.cells #[.int .i64 p0, .int .i64 (plN H q1)] 119)) (fun q _ h2 => alloc_lt h2) (by simp) hgr' hr' (by rw [size_alloc]; exact hat)
                    have hf5 : Fr [X] wc (w5.setCell ⟨X, 3, none⟩ (.slice A8 (plN H (r + 1)) c8)) := put_fr (v := .slice A7 (plN H r) c7) hf3 (show Fr [X] W2 (W2.alloc (.cells #[.int .i64 p0, .int .i64 (plN H q1)] 119)) by (repeat (first | with_reducible exact Fr.refl _ _ | with_reducible assumption | ((with_reducible refine Fr.setCell ?_ ?_ _); rotate_left; (· first | (simp; done) | assumption | (simp; assumption))) | with_reducible refine Fr.drewN ?_ _ | with_reducible refine Fr.drew ?_ | with_reducible refine Fr.alloc ?_ _ | with_reducible refine Fr.trans ?_ (Fr.of_below (by with_reducible assumption))))) hgr' hg7 (by simp)
                    have hg8 : ∀ g, (Value.slice A8 (plN H (r + 1)) c8).ownBlock = some g → wc.heap.size ≤ g := by
                      intro g e
                      rcases hat with hat | hat
                      · exact hg7 g (by rw [← hat]; exact e)
                      · rw [hat] at e; injection e with e; have := hf3.size; omega
                    clear hown hgr' hat hown0 hD2 hf3 hg7 hr' h8 hbX hdl c3 e0 e1
                    go_wp2_with fail
                    go_roundw
                    case rel => exact ⟨r + 1, A8, c8, by omega, by go_num, hD5, hg8, hf5⟩
                    case measure => simp [intOf]; omega
                · have hj : isJ y0 = true := isJ_yes1 E0
                  have hin := HJ.out hj
                  rw [hli'.out, L3.out] at hin
                  simp only at hin
                  obtain ⟨q1, rfl⟩ : ∃ q1 : Nat, y1 = (q1 : Int) := ⟨y1.toNat, by omega⟩
                  have hq1 : q1 < k + 1 := by omega
                  have hq1I : (q1 : Int) < (k : Int) + 1 := by omega
                  have hpc := places_cell hO hq1
                  obtain ⟨rfl, hp1e⟩ : p0 = y0 ∧ p1 = (plN H q1 : Int) := by have := HP.out; rw [patI_jump hj] at this; injection this with a b; exact ⟨a.symm, b.symm⟩
                  subst hp1e
                  clear hin hj
                  go_upto_region 17 with fail
                  obtain ⟨W2, hW2⟩ : ∃ W2, W2 = wr.alloc (.cells #[.int .i64 p0, .int .i64 (plN H q1)] 119) := ⟨_, rfl⟩
                  have hbW2 : Below wr.heap.size wr W2 := by rw [hW2]; (repeat (first | with_reducible exact Below.refl _ _ | with_reducible assumption | with_reducible refine below_alloc ?_ _ | ((with_reducible refine Below.setCell ?_ ?_ _); rotate_left; (· first | exact Nat.le_refl _ | omega | (simp; done) | (simp; omega))) | with_reducible refine below_drewN ?_ _ | with_reducible refine Below.drew ?_ | with_reducible refine below_then ?_ (by with_reducible assumption)))
                  have hz2' : wr.heap.size < W2.heap.size := by rw [hW2]; simp [World.setCell]
                  have hD2 := hD.below hbW2
                  have hf3 : Fr [X] wc W2 := hf.trans (Fr.of_below hbW2)
                  have e0 : W2.cell? ⟨wr.heap.size, 0, none⟩ = some (.int .i64 p0) := by rw [hW2]; simp [go_sem, World.setCell]
                  have e1 : W2.cell? ⟨wr.heap.size, 1, none⟩ = some (.int .i64 (plN H q1)) := by rw [hW2]; simp [go_sem, World.setCell]
                  rw [← hW2]
                  clear hW2 hD hf hbW2 r0 r1 hch c3
                  have c3 := hD2.k3
                  have hown0 : W2.ownsRow wo.heap.size 119 2 (.slice A7 (plN H r) c7) (dropK (patI H) t3 H r).length (encL insV (dropK (patI H) t3 H r)) := hD2.cd.r3
                  go_wp2_with (at_builtin; refine wpList_append_src _ rfl _ _ 27 rfl wo.heap.size 119 inf (.agg #[.int .i64 0, .int .i64 0]) 2 16 Tryz.underlying27 hif hy0 hy1 hy2 rfl (by decide) _ _ _ rfl (hown0.alloc _) (some ⟨W2.heap.size, 0, none⟩) 1 1 [.int .i64 p0, .int .i64 (plN H q1)] rfl (src_new rfl rfl) (by simp [Value.oneCell']) (by unfold maxLen; omega) (by omega) (by simp; omega) ?_)
                  intro v' w5 hown hgr' hat
                  have hr' : InsRow w5 wo.heap.size v' (dropK (patI H) t3 H (r + 1)) := by
                    unfold InsRow
                    rw [HDK.out, List.length_append, hdl, encL_append]; exact hown
                  obtain ⟨A8, n8, c8, rfl, h8⟩ := hr'.form
                  obtain rfl : n8 = plN H (r + 1) := by rw [h8, HDK.out, List.length_append, hdl, HPL.out]; rfl
                  have hbX : w5.heap[X]? = W2.heap[X]? := (hgr'.block X (by simp; omega) (fun e => hD2.n3 e.symm)).trans (alloc_lt hD2.lt)
                  have c3' := cell_same0 hbX hD2.k3
                  have c3f := (World.frozen?_of_block (w := W2) (a := ⟨X, 3, none⟩) hbX).trans (hD2.kf 3)
                  have hD5 := hD2.put3 (wm := W2.alloc (.cells #[.int .i64 p0, .int .i64 (plN H q1)] 119)) (fun q _ h2 => alloc_lt h2) (by simp) hgr' hr' (by rw [size_alloc]; exact hat)
                  have hf5 : Fr [X] wc (w5.setCell ⟨X, 3, none⟩ (.slice A8 (plN H (r + 1)) c8)) := put_fr (v := .slice A7 (plN H r) c7) hf3 (show Fr [X] W2 (W2.alloc (.cells #[.int .i64 p0, .int .i64 (plN H q1)] 119)) by (repeat (first | with_reducible exact Fr.refl _ _ | with_reducible assumption | ((with_reducible refine Fr.setCell ?_ ?_ _); rotate_left; (· first | (simp; done) | assumption | (simp; assumption))) | with_reducible refine Fr.drewN ?_ _ | with_reducible refine Fr.drew ?_ | with_reducible refine Fr.alloc ?_ _ | with_reducible refine Fr.trans ?_ (Fr.of_below (by with_reducible assumption))))) hgr' hg7 (by simp)
                  have hg8 : ∀ g, (Value.slice A8 (plN H (r + 1)) c8).ownBlock = some g → wc.heap.size ≤ g := by
                    intro g e
                    rcases hat with hat | hat
                    · exact hg7 g (by rw [← hat]; exact e)
                    · rw [hat] at e; injection e with e; have := hf3.size; omega
                  clear hown hgr' hat hown0 hD2 hf3 hg7 hr' h8 hbX hdl c3 e0 e1
                  go_wp2_with fail
                  go_roundw
                  case rel => exact ⟨r + 1, A8, c8, by omega, by go_num, hD5, hg8, hf5⟩
                  case measure => simp [intOf]; omega
              · have hdec : decide (hv < 0) = true := by simp; omega
                have hpl : plN H (r + 1) = plN H r := by rw [plN_step hkH, HV, if_neg hp0, Nat.add_zero]
                have hdk : dropK (patI H) t3 H (r + 1) = dropK (patI H) t3 H r := dropK_no (by have := hL5.out; have := L3.out; omega) hkt (by rw [HV]; exact hp0)
                have hD5 : DSt wr wo.heap.size X z0 z1 (.slice A6 n6 c6) (.slice A7 (plN H (r + 1)) c7) (.slice none 0 0) t2 (dropK (patI H) t3 H (r + 1)) [] := by rw [hpl, hdk]; exact hD
                have hg8 : ∀ g, (Value.slice A7 (plN H (r + 1)) c7).ownBlock = some g → wc.heap.size ≤ g := by rw [hpl]; exact hg7
                clear hpl hdk hD hg7 hli HV
                go_wp2_with fail
                go_roundw
                case rel => exact ⟨r + 1, A7, c7, by omega, by go_num, hD5.below (by (repeat (first | with_reducible exact Below.refl _ _ | with_reducible assumption | with_reducible refine below_alloc ?_ _ | ((with_reducible refine Below.setCell ?_ ?_ _); rotate_left; (· first | exact Nat.le_refl _ | (simp; done) | (simp; omega))) | with_reducible refine below_drewN ?_ _ | with_reducible refine Below.drew ?_ | with_reducible refine below_then ?_ (by with_reducible assumption)))), hg8, by (repeat (first | with_reducible exact Fr.refl _ _ | with_reducible assumption | ((with_reducible refine Fr.setCell ?_ ?_ _); rotate_left; (· first | (simp; done) | assumption | (simp; assumption))) | with_reducible refine Fr.drewN ?_ _ | with_reducible refine Fr.drew ?_ | with_reducible refine Fr.alloc ?_ _ | with_reducible refine Fr.trans ?_ (Fr.of_below (by with_reducible assumption))))⟩
                case measure => simp [intOf]; omega
            · obtain rfl : r = k := by omega
              obtain ⟨L', hL'⟩ : ∃ L', dropK (patI H) t3 H r = L' := ⟨_, rfl⟩
              have HLk := Lib.hid (show dropK (patI H) t3 H t3.length = L' by rw [← hL', L3.out])
              rw [hL'] at hD
              obtain ⟨q, hq⟩ : ∃ q, plN H r = q := ⟨_, rfl⟩
              rw [hq] at hD hg7
              have hfo : Fr [X] V wr := (Fr.of_below hxc).trans hf
              have hGo : ∀ u, u ∈ [X] → V.heap.size ≤ u := by first | omega | (simp; done) | (simp; omega)
              have hbo' : Below w.heap.size w wr := hbw
              have hXo := hD.lt
              obtain ⟨wq, hwq⟩ : ∃ wq, wq = wr := ⟨_, rfl⟩
              subst hwq
              obtain ⟨sx, s0, s1, s2, s3, s4⟩ := hX.out wq _ hfo hGo
              have hO7 := hO
              clear hf hg7 hSr hO hbw s0 s1 s2 s3 sx hL' hq hbo
              have hbo := hbo'
              clear hbo'
              go_wp2_with fail
              clear s4
              go_loopw [98] (fun i wr => ∃ (rr : Nat) (A9 : Option Addr) (n9 c9 : Nat), rr ≤ m4 ∧ i = .int .i64 rr ∧ DSt wr wo.heap.size X z0 z1 (.slice A6 n6 c6) (.slice A7 q c7) (.slice A9 n9 c9) t2 (L') (dropRows H (t4.take rr)) ∧ (∀ g, (Value.slice A9 n9 c9).ownBlock = some g → wq.heap.size ≤ g) ∧ Fr [X] wq wr) (fun i _ => m4 - (intOf i).toNat)
              case atStart => exact ⟨0, none, 0, 0, Nat.zero_le _, rfl, hD, (fun g h => by cases h), Fr.refl _ _⟩
              case round =>
                clear hD
                obtain ⟨rr, A9, n9, c9, hr, rfl, hD, hg9, hf⟩ := hrel
                have hzr := hf.size
                have hXr := hD.lt
                have hbr : Below w.heap.size w wr := below_fr hbo hf (by first | omega | (simp; done) | (simp; omega))
                by_cases hlt3 : rr < m4
                · have hO8 : OwnSl intR wr 3 [gp] (.slice (some ⟨gp, 0, none⟩) (r + 1) (r + 1)) (places H (r + 1)) := hO7.fr hf (fun u hu hu' => by simp at hu hu'; omega)
                  obtain ⟨b4, o4, y0, y1, y2, rfl, _, hb4l, hli, _, _, _, r0, r1, r2⟩ := Row_at (kS4.below hbr hh) hlt3
                  have hrt : rr < t4.length := by have := L4.out; omega
                  have hin := rows_in HRW.out hrt
                  have hli2 : t4[rr]'hrt = (y0, y1, y2) := hli
                  rw [hli2, L3.out] at hin
                  simp only at hin
                  obtain ⟨a0, rfl⟩ : ∃ a : Nat, y0 = (a : Int) := ⟨y0.toNat, by omega⟩
                  obtain ⟨a1, rfl⟩ : ∃ a : Nat, y1 = (a : Int) := ⟨y1.toNat, by omega⟩
                  obtain ⟨a2, rfl⟩ : ∃ a : Nat, y2 = (a : Int) := ⟨y2.toNat, by omega⟩
                  have ha0 : a0 < r + 1 := by omega
                  have ha1 : a1 < r + 1 := by omega
                  have ha2 : a2 < r + 1 := by omega
                  have hp0 := places_cell hO8 ha0
                  have hp1 := places_cell hO8 ha1
                  have hp2 := places_cell hO8 ha2
                  have HSY := Lib.hid (fun hp => dropRows_yes (h := H) hrt hli2 hp)
                  have HSN := Lib.hid (fun hp => dropRows_no (h := H) hrt hli2 hp)
                  have ha0I : (a0 : Int) < (r : Int) + 1 := by omega
                  have ha1I : (a1 : Int) < (r : Int) + 1 := by omega
                  have ha2I : (a2 : Int) < (r : Int) + 1 := by omega
                  have hgr : gp < wr.heap.size := by omega
                  clear hin hli hli2
                  go_upto_region 22 with fail
                  obtain ⟨W3, hW3⟩ : ∃ W3, W3 = wr.alloc (.cells #[.int .i64 a0, .int .i64 a1, .int .i64 a2] 97) := ⟨_, rfl⟩
                  have hb3' : Below wr.heap.size wr W3 := by rw [hW3]; (repeat (first | with_reducible exact Below.refl _ _ | with_reducible assumption | with_reducible refine below_alloc ?_ _ | ((with_reducible refine Below.setCell ?_ ?_ _); rotate_left; (· first | exact Nat.le_refl _ | (simp; done) | (simp; omega))) | with_reducible refine below_drewN ?_ _ | with_reducible refine Below.drew ?_ | with_reducible refine below_then ?_ (by with_reducible assumption)))
                  have hz3' : wr.heap.size < W3.heap.size := by rw [hW3]; simp
                  have hS3 := Lib.hid (show ∀ V', Below W3.heap.size W3 V' → V'.cell? ⟨wr.heap.size, 0, none⟩ = some (.int .i64 a0) ∧ V'.cell? ⟨wr.heap.size, 1, none⟩ = some (.int .i64 a1) ∧ V'.cell? ⟨wr.heap.size, 2, none⟩ = some (.int .i64 a2) ∧ V'.cell? ⟨gp, a0, none⟩ = some (.int .i64 (plN H a0)) ∧ V'.cell? ⟨gp, a1, none⟩ = some (.int .i64 (plN H a1)) ∧ V'.cell? ⟨gp, a2, none⟩ = some (.int .i64 (plN H a2)) from fun V' hV => by
                    refine ⟨below_cell hV ?_, below_cell hV ?_, below_cell hV ?_, below_cell hV (below_cell hb3' hp0), below_cell hV (below_cell hb3' hp1), below_cell hV (below_cell hb3' hp2)⟩ <;> (rw [hW3]; simp [go_sem]))
                  rw [← hW3]
                  have hD3 := hD.below hb3'
                  have hf3 : Fr [X] wq W3 := hf.trans (Fr.of_below hb3')
                  clear hW3 hp0 hp1 hp2 r0 r1 r2 hD hf
                  obtain ⟨p0, p1, p2, p3, p4, p5⟩ := hS3.out W3 (Below.refl _ _)
                  go_cut [14] (fun s wx => ∃ Y, s = .pointer (some ⟨Y, 0, none⟩) ∧ wx.cell? ⟨Y, 0, none⟩ = some (.int .i64 (plN H a0)) ∧ wx.cell? ⟨Y, 1, none⟩ = some (.int .i64 (plN H a1)) ∧ wx.cell? ⟨Y, 2, none⟩ = some (.int .i64 (plN H a2)) ∧ W3.heap.size ≤ Y ∧ Below W3.heap.size W3 wx)
                  case first =>
                    as_aux_lemma =>
                      go_region_held3 (fun V' => V'.cell? ⟨wr.heap.size, 0, none⟩ = some (.int .i64 a0) ∧ V'.cell? ⟨wr.heap.size, 1, none⟩ = some (.int .i64 a1) ∧ V'.cell? ⟨wr.heap.size, 2, none⟩ = some (.int .i64 a2) ∧ V'.cell? ⟨gp, a0, none⟩ = some (.int .i64 (plN H a0)) ∧ V'.cell? ⟨gp, a1, none⟩ = some (.int .i64 (plN H a1)) ∧ V'.cell? ⟨gp, a2, none⟩ = some (.int .i64 (plN H a2))) (exact hS3.out _ (show Below W3.heap.size W3 _ by (repeat (first | with_reducible exact Below.refl _ _ | with_reducible assumption | with_reducible refine below_alloc ?_ _ | ((with_reducible refine Below.setCell ?_ ?_ _); rotate_left; (· first | exact Nat.le_refl _ | omega | (simp; done) | (simp; omega))) | with_reducible refine below_drewN ?_ _ | with_reducible refine Below.drew ?_ | with_reducible refine below_then ?_ (by with_reducible assumption)))))
                        (fail)
                      all_goals
                        go_wp2_with fail
                        go_meet
                        case rel => exact ⟨_, rfl, by simp [go_sem], by simp [go_sem], by simp [go_sem], Nat.le_refl _, by (repeat (first | with_reducible exact Below.refl _ _ | with_reducible assumption | with_reducible refine below_alloc ?_ _ | ((with_reducible refine Below.setCell ?_ ?_ _); rotate_left; (· first | exact Nat.le_refl _ | omega | (simp; done) | (simp; omega))) | with_reducible refine below_drewN ?_ _ | with_reducible refine Below.drew ?_ | with_reducible refine below_then ?_ (by with_reducible assumption)))⟩
                  case rest =>
                    as_aux_lemma =>
                      obtain ⟨Y, rfl, t0, t1, t2', hY, hbe⟩ := hcut
                      have hDe := hD3.below hbe
                      have hfe : Fr [X] wq wc := hf3.trans (Fr.of_below hbe)
                      have hze := hbe.size
                      have hXe := hDe.lt
                      have hYe := World.block_lt_of_cell? wc _ t0
                      clear p0 p1 p2 p3 p4 p5 hS3 hD3 hf3 hbe
                      have c4 := hDe.k4
                      by_cases hab : plN H a0 < plN H a1
                      · have hdec : decide ((plN H a0 : Int) < (plN H a1 : Int)) = true := by simpa using hab
                        have HST := Lib.hid (HSY.out hab)
                        obtain ⟨inf, hif, hy0, hy1, hy2⟩ := info_parts Tryz.infoRow2
                        have hown0 : wc.ownsRow wo.heap.size 97 3 (.slice A9 n9 c9) (dropRows H (t4.take rr)).length (encL rowV (dropRows H (t4.take rr))) := hDe.cd.r4
                        have hdr := dropRows_len H (t4.take rr)
                        have hdr2 : (t4.take rr).length ≤ rr := by simp; omega
                        go_wp2_with (at_builtin; refine wpList_append_src _ rfl _ _ 28 rfl wo.heap.size 97 inf (.agg #[.int .i64 0, .int .i64 0, .int .i64 0]) 3 24 Tryz.underlying28 hif hy0 hy1 hy2 rfl (by decide) _ _ _ rfl (hown0.alloc _) (some ⟨wc.heap.size, 0, none⟩) 1 1 [.int .i64 (plN H a0), .int .i64 (plN H a1), .int .i64 (plN H a2)] rfl (src_new rfl rfl) (by simp [Value.oneCell']) (by unfold maxLen; omega) (by omega) (by simp; omega) ?_)
                        intro v' w5 hown hgr' hat
                        have hr5 : RowsRow w5 wo.heap.size v' (dropRows H (t4.take (rr + 1))) := by
                          unfold RowsRow
                          rw [HST.out, List.length_append, encL_append]; exact hown
                        obtain ⟨A8, n8, c8, rfl, h8⟩ := rows_form hr5
                        clear h8
                        have hbX : w5.heap[X]? = wc.heap[X]? := (hgr'.block X (by simp; omega) (fun e => hDe.n4 e.symm)).trans (alloc_lt hDe.lt)
                        have c4' := cell_same0 hbX hDe.k4
                        have c4f := (World.frozen?_of_block (w := wc) (a := ⟨X, 4, none⟩) hbX).trans (hDe.kf 4)
                        have hD5 := hDe.put4 (wm := wc.alloc (.cells #[.int .i64 (plN H a0), .int .i64 (plN H a1), .int .i64 (plN H a2)] 97)) (fun q _ h2 => alloc_lt h2) (by simp) hgr' hr5 (by rw [size_alloc]; exact hat)
                        have hf5 : Fr [X] wq (w5.setCell ⟨X, 4, none⟩ (.slice A8 n8 c8)) := put_fr (v := .slice A9 n9 c9) hfe (show Fr [X] wc (wc.alloc (.cells #[.int .i64 (plN H a0), .int .i64 (plN H a1), .int .i64 (plN H a2)] 97)) by (repeat (first | with_reducible exact Fr.refl _ _ | with_reducible assumption | ((with_reducible refine Fr.setCell ?_ ?_ _); rotate_left; (· first | (simp; done) | assumption | (simp; assumption))) | with_reducible refine Fr.drewN ?_ _ | with_reducible refine Fr.drew ?_ | with_reducible refine Fr.alloc ?_ _ | with_reducible refine Fr.trans ?_ (Fr.of_below (by with_reducible assumption))))) hgr' hg9 (by simp)
                        have hg8 : ∀ g, (Value.slice A8 n8 c8).ownBlock = some g → wq.heap.size ≤ g := by
                          intro g e
                          rcases hat with hat | hat
                          · exact hg9 g (by rw [← hat]; exact e)
                          · rw [hat] at e; injection e with e; have := hfe.size; omega
                        clear hown hgr' hat hown0 hDe hfe hg9 hr5 hbX c4 t0 t1 t2'
                        go_wp2_with fail
                        go_roundw
                        case rel => exact ⟨rr + 1, A8, n8, c8, by omega, by go_num, hD5, hg8, hf5⟩
                        case measure => simp [intOf]; omega
                      · have hdec : decide ((plN H a0 : Int) < (plN H a1 : Int)) = false := by simpa using hab
                        have HST := Lib.hid (HSN.out hab)
                        have hD5 : DSt wc wo.heap.size X z0 z1 (.slice A6 n6 c6) (.slice A7 q c7) (.slice A9 n9 c9) t2 (L') (dropRows H (t4.take (rr + 1))) := by rw [HST.out]; exact hDe
                        clear hDe
                        go_wp2_with fail
                        go_roundw
                        case rel => exact ⟨rr + 1, A9, n9, c9, by omega, by go_num, hD5, hg9, hfe⟩
                        case measure => simp [intOf]; omega
                · rw [List.take_of_length_le (by have := L4.out; omega)] at hD
                  obtain ⟨g0, g1, g2, g3, g4, gf⟩ := hR.out wr _ (hfo.trans hf) hGo
                  have k0 := hD.k0
                  have k1 := hD.k1
                  have k2 := hD.k2
                  have k3 := hD.k3
                  have k4 := hD.k4
                  have HLM : L' = dropK (patI H) t3 H t3.length := HLk.out.symm
                  rw [HLM] at hD
                  have hcd := hD.cd
                  have hz4 : w.heap.size + 1 + 1 < wo.heap.size := by omega
                  clear hD hf hg9 hfo hO7 HLM
                  go_wp2_with fail
                  refine bodyPost_ret (v := .agg #[.int .i64 z0, .int .i64 z1, .slice A6 n6 c6, .slice A7 q c7, .slice A9 n9 c9]) (by simp [results, Tryz.results43, go_sem, g0, g1, g2, g3, g4, gf]) rfl ?_
                  exact ⟨_, _, _, _, _, _, _, _, _, rfl, (hcd.fr (G := [w.heap.size + 1 + 1]) (by (repeat (first | with_reducible exact Fr.refl _ _ | with_reducible assumption | ((with_reducible refine Fr.setCell ?_ ?_ _); rotate_left; (· first | (simp; done) | assumption | (simp; assumption))) | with_reducible refine Fr.drewN ?_ _ | with_reducible refine Fr.drew ?_ | with_reducible refine Fr.alloc ?_ _ | with_reducible refine Fr.trans ?_ (Fr.of_below (by with_reducible assumption))))) (by first | omega | (simp; done) | (simp; omega))).mono (by omega), by (repeat (first | with_reducible exact Below.refl _ _ | with_reducible assumption | with_reducible refine below_alloc ?_ _ | ((with_reducible refine Below.setCell ?_ ?_ _); rotate_left; (· first | exact Nat.le_refl _ | (simp; done) | (simp; omega))) | with_reducible refine below_drewN ?_ _ | with_reducible refine Below.drew ?_ | with_reducible refine below_then ?_ (by with_reducible assumption)))⟩
end Go.Proofs.YtmnkgcjbckamnaaGreat
