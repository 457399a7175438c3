/- Rows read back: the reference's walk. -/
import Derived.Test.YtgoinmdnpaknpaaGreatRdE
import Derived.Test.YtgoinmdnpaknpaaGreatKit1
import Derived.Test.YtgoinmdnpaknpaaGreatChk
import Derived.Deep.DeepCutAuto
set_option linter.unusedVariables false
set_option linter.unusedSimpArgs false
set_option maxRecDepth 100000
namespace Go.Proofs.YtgoinmdnpaknpaaGreat
open Go.RowKit
attribute [local irreducible] wpList
theorem heap_put {w : World} {b i : Nat} {cs : Array Value} {t : TypeId} {u : Value} (h : w.heap[b]? = some (.cells cs t)) : (w.setCell ⟨b, i, none⟩ u).heap[b]? = some (.cells (cs.setIfInBounds i u) t) := by
  unfold World.setCell
  simp only [Array.getElem?_modify, h]
  simp
theorem fr_at {w w' : World} {F : List Nat} {b : Nat} {x : Obj} (hf : Fr F w w') (hn : b ∉ F) (h : w.heap[b]? = some x) : w'.heap[b]? = some x := (hf.block b (blk_size h) hn).trans h
theorem RdrB.other {w : World} {b : Nat} {T : TypeId} {s : ByteArray} {x : Int} {ok : Bool} (h : RdrB w b T s x ok) {p : Addr} (hp : p.block ≠ b) (v : Value) : RdrB (w.setCell p v) b T s x ok := by
  unfold RdrB World.setCell
  simp only [Array.getElem?_modify, if_neg hp]
  exact h
theorem RdrB.grown {w w' : World} {b : Nat} {T : TypeId} {s : ByteArray} {x : Int} {ok : Bool} (h : RdrB w b T s x ok) {v : Value} (hg : w.grownBy w' v.ownBlock) (hn : ∀ g, v.ownBlock = some g → g ≠ b) : RdrB w' b T s x ok :=
  (hg.block b (blk_size h) (fun e => hn b e.symm rfl)).trans h
theorem three_cells {w : World} {b : Nat} {v0 v1 v2 : Value} {t : TypeId} (h : w.heap[b]? = some (.cells #[v0, v1, v2] t)) : w.cell? ⟨b, 0, none⟩ = some v0 ∧ w.cell? ⟨b, 1, none⟩ = some v1 ∧ w.cell? ⟨b, 2, none⟩ = some v2 :=
  ⟨by rw [cell_of_row _ _ _ _ _ _ h]; rfl, by rw [cell_of_row _ _ _ _ _ _ h]; rfl, by rw [cell_of_row _ _ _ _ _ _ h]; rfl⟩
theorem put3_1 {w : World} {b : Nat} {v0 v1 v2 u : Value} {t : TypeId} (h : w.heap[b]? = some (.cells #[v0, v1, v2] t)) : (w.setCell ⟨b, 1, none⟩ u).heap[b]? = some (.cells #[v0, u, v2] t) := by rw [heap_put h]; rfl
theorem put3_2 {w : World} {b : Nat} {v0 v1 v2 u : Value} {t : TypeId} (h : w.heap[b]? = some (.cells #[v0, v1, v2] t)) : (w.setCell ⟨b, 2, none⟩ u).heap[b]? = some (.cells #[v0, v1, u] t) := by rw [heap_put h]; rfl
theorem fr_new {F G : List Nat} {w W Y : World} (h1 : Fr F w W) (h2 : Fr G W Y) (hG : ∀ k, k ∈ G → k ∈ F ∨ w.heap.size ≤ k) : Fr F w Y :=
  ⟨h2.os.trans h1.os, h2.tape.trans h1.tape, h2.output.trans h1.output, Nat.le_trans h1.size h2.size, fun k hk hn => (h2.block k (Nat.lt_of_lt_of_le hk h1.size) (fun hg => by rcases hG k hg with h | h; exact hn h; omega)).trans (h1.block k hk hn)⟩
theorem specLeast_ (w : World) (a b : Int) : Calls Tryz.prog 43 #[.int .i64 a, .int .i64 b] w (fun e w' => e = .returned (.int .i64 (min a b)) ∧ w = w') := by
  go_enter Tryz.func43, Tryz.ntmps43
  go_wp2_with fail
  all_goals
    go_ret
    exact ⟨ret_int (by omega), rfl⟩
theorem specMost_ (w : World) (a b : Int) : Calls Tryz.prog 42 #[.int .i64 a, .int .i64 b] w (fun e w' => e = .returned (.int .i64 (max a b)) ∧ w = w') := by
  go_enter Tryz.func42, Tryz.ntmps42
  go_wp2_with fail
  all_goals
    go_ret
    exact ⟨ret_int (by omega), rfl⟩
theorem Tryz.infoRowS : (Tryz.prog.info? 71).map (fun i => (i.zero, i.size, i.bytes)) = some (some (.agg #[.int .i64 0, .int .i64 0, .int .i64 0]), 3, 24) := by kernel_rfl
theorem rowS_one {x0 x1 x2 : Int} : ∀ u ∈ ([.int .i64 x0, .int .i64 x1, .int .i64 x2] : List Value), u.oneCell' = true := by
  intro u hu; simp at hu; rcases hu with rfl | rfl | rfl <;> rfl
def RetRwS (s : ByteArray) (x0 : Int) (ok0 : Bool) (T : TypeId) (b : Nat) (w : World) (e : Ending) (w' : World) : Prop :=
  ∃ (A : Option Addr) (n c : Nat) (l : List Row) (x' : Int) (ok' : Bool) (F : List Nat), e = .returned (.slice A n c) ∧ I64 x' ∧ Hid (OwnSl RowR w' 71 F (.slice A n c) l) ∧ Hid (∀ k, k ∈ F → w.heap.size ≤ k) ∧ l.length ≤ 300 ∧ Hid (∀ many, RowsP s x0 ok0 many l x' ok') ∧ Hid (RdrB w' b T s x' ok') ∧ Fr [b] w w'
set_option maxHeartbeats 8000000 in
theorem specRows (w : World) (b : Nat) (s : ByteArray) (x0 : Int) (ok0 : Bool) (hs : s.size ≤ maxLen) (hx : I64 x0) (h : RdrB w b 33 s x0 ok0) :
    Calls Tryz.prog 21 #[.pointer (some ⟨b, 0, none⟩)] w (RetRwS s x0 ok0 33 b w) := by
  have hbl := blk_size h
  obtain ⟨inf, hif, hz0, hz1, hz2⟩ := info_parts Tryz.infoRowS
  have HIF := Lib.hid hif
  have HZ0 := Lib.hid hz0
  have HZ1 := Lib.hid hz1
  have HZ2 := Lib.hid hz2
  clear hif hz0 hz1 hz2
  go_enter Tryz.func21, Tryz.ntmps21
  go_wp2_with fail
  refine (specNumber w b s x0 ok0 300 (by omega) hs hx h).mono ?_
  rintro e w1 ⟨m, x1, ok1, rfl, ⟨hm0, hm1⟩, hx1, HN, HR, hf1⟩
  clear h
  go_wp2_with fail
  go_loopw [3, 4, 5] (fun rv yv iv wr => ∃ (cnt x y : Int) (ok : Bool) (A : Option Addr) (n c : Nat) (l : List Row) (F : List Nat), iv = .int .i64 cnt ∧ rv = .slice A n c ∧ yv = .int .i64 y ∧ I64 x ∧ (-1 ≤ cnt ∧ cnt ≤ 300) ∧ (-2000000 * (300 - cnt) ≤ y ∧ y ≤ 2000000 * (300 - cnt)) ∧ Hid (y = endOf l) ∧ (l.length : Int) ≤ 300 - cnt ∧ (0 ≤ cnt ∨ l.length = 0) ∧ Hid (OwnSl RowR wr 71 F (.slice A n c) l) ∧ Hid (∀ j, j ∈ F → w.heap.size ≤ j) ∧ Hid (∀ many, RFol s x0 ok0 many x ok (MR l cnt) (rmR l)) ∧ Hid (RdrB wr b 33 s x ok) ∧ Fr [b] w wr) (fun _ _ iv _ => (intOf iv).toNat)
  case atStart => exact ⟨m, x1, 0, ok1, none, 0, 0, [], [], rfl, rfl, rfl, hx1, ⟨hm0, hm1⟩, by omega, Lib.hid rfl, by simp; omega, Or.inr rfl, Lib.hid (OwnSl.nil_ ..), Lib.hid (by simp), Lib.hid (fun many => RFol.many HN.out (by omega)), HR, hf1⟩
  case round =>
    clear HN HR hf1 hx1 hm0 hm1
    obtain ⟨cnt, x, y, ok, A, n, c, l, F, rfl, rfl, rfl, hx1, ⟨hc0, hc1⟩, ⟨hy0, hy1⟩, HY, hll, hl0, HO, HFF, HF, HR, hf⟩ := hrel
    obtain ⟨r0, r1, r2⟩ := HR.out.cells
    have hzw := hf.size
    have hblr : b < wr.heap.size := by omega
    by_cases hgo : 0 < cnt ∧ ok = true
    rotate_left
    · have hc : ¬ (0 < cnt) ∨ (0 < cnt ∧ ok = false) := by
        by_cases h1 : 0 < cnt
        · cases ok
          · exact Or.inr ⟨h1, rfl⟩
          · exact absurd ⟨h1, rfl⟩ hgo
        · exact Or.inl h1
      have HD := Lib.hid (show ∀ many, RowsP s x0 ok0 many l x ok from fun many => (HF.out many).done (fun h1 => by
        rcases hc with h2 | ⟨_, h2⟩
        · omega
        · rw [h2] at h1; cases h1) (fun h => h) (fun h _ => h))
      clear hgo HF
      rcases hc with h1 | ⟨h1, rfl⟩
      all_goals
        go_wp2_with fail
        go_ret
        exact ⟨A, n, c, l, x, _, F, rfl, hx1, HO, HFF, by omega, HD, HR, hf⟩
    obtain ⟨hcp, rfl⟩ := hgo
    go_wp2_with fail
    refine (specNumber wr b s x true 1000000 (by omega) hs hx1 HR.out).mono ?_
    rintro e w2 ⟨g, x2, ok2, rfl, ⟨hg0, hg1⟩, hx2, HN2, HR2, hf2⟩
    have HF2 := Lib.hid (fun many => (HF.out many).gap hcp HN2.out (by omega))
    have HO2 := Lib.hid (HO.out.fr hf2 (fun k hk hk2 => by have := HFF.out k hk; simp at hk2; omega))
    have hf02 : Fr [b] w w2 := Fr.trans hf hf2
    clear HF HN2 HO HR r0 r1 r2
    obtain ⟨a, ea⟩ : ∃ a, y + g = a := ⟨_, rfl⟩
    have ba : -700000000 ≤ a ∧ a ≤ 700000000 := by omega
    obtain ⟨ba1, ba2⟩ := ba
    go_upto_region 7 with fail
    obtain ⟨W, hW⟩ : ∃ W, W = w2.alloc (.cells #[.int .i64 a, .int .i64 0, .int .i64 0] 71) := ⟨_, rfl⟩
    obtain ⟨r, hr⟩ : ∃ r, w2.heap.size = r := ⟨_, rfl⟩
    have hbW : Below w2.heap.size w2 W := by rw [hW]; exact belA
    have HB0 := Lib.hid (show W.heap[r]? = some (.cells #[.int .i64 a, .int .i64 0, .int .i64 0] 71) from by rw [hW]; exact alloc_new' hr)
    have RW := Lib.hid (HR2.out.below hbW)
    have HOW := Lib.hid (HO2.out.below hbW)
    have hzr := hf2.size
    have hbr : b < r := by omega
    have hrW : r < W.heap.size := blk_size HB0.out
    have hwr : w.heap.size ≤ r := by omega
    have hlF := Lib.hid (show ∀ j, j ∈ F → j < r from fun j hj => by have := HO2.out.lt j hj; omega)
    have hfW : Fr [b] w W := Fr.trans hf02 (Fr.of_below hbW)
    rw [← hW, hr]
    clear hW hr HO2 HR2 hbW
    have hS := Lib.hid (show ∀ V, Fr [b] W V → V.cell? ⟨r, 0, none⟩ = some (.int .i64 a) from fun V hV => (three_cells (fr_at hV (by simp; omega) HB0.out)).1)
    have k0 := hS.out W (Fr.refl _ _)
    go_region_held3 (fun V => V.cell? ⟨r, 0, none⟩ = some (.int .i64 a)) (first | exact (three_cells (put3_1 HB3.out)).1 | exact hS.out _ (by first | exact Fr.refl _ _ | assumption | exact frcA))
      (first | (go_at_call 10; ((with_reducible refine (specNumber _ b s x2 ok2 1000000 (by omega) hs hx2 (RW.out.below (show Below W.heap.size W _ by exact beloA))).mono ?_); rintro e w3 ⟨lg, x3, ok3, rfl, ⟨hlg0, hlg1⟩, hx3, HN3, HR3, hf3⟩; have t3 : Fr [b] W w3 := (Fr.trans (show Fr [b] W _ by exact frcA) hf3); have y3 := t3.size; have hb3 : b < w3.heap.size := (by omega); have hrw3 : r < w3.heap.size := (by omega); have HB3 := Lib.hid (fr_at t3 (show r ∉ [b] by simp; omega) HB0.out); have c31 := (three_cells HB3.out).2.1; have z31 := blk_frozen HB3.out 1; obtain ⟨bq, eb⟩ : ∃ z, a + lg = z := ⟨_, rfl⟩; have bb1 : -800000000 ≤ bq := (by omega); have bb2 : bq ≤ 800000000 := (by omega); have wbq : IntKind.i64.wrap bq = bq := IntWalk.i64_in _ (by omega))))
    obtain ⟨X, hX⟩ : ∃ X, X = w3.setCell ⟨r, 1, none⟩ (.int .i64 bq) := ⟨_, rfl⟩
    have HBX := Lib.hid (show X.heap[r]? = some (.cells #[.int .i64 a, .int .i64 bq, .int .i64 0] 71) from by rw [hX]; exact put3_1 HB3.out)
    have RX := Lib.hid (show RdrB X b 33 s x3 ok3 from by rw [hX]; exact HR3.out.other (by simp; omega) _)
    have hWX : Fr [b, r] W X := by rw [hX]; exact Fr.setCell (p := ⟨r, 1, none⟩) (t3.more (by simp)) (by simp) _
    have HOX := Lib.hid (HOW.out.fr hWX (fun k hk hk2 => by have := HFF.out k hk; have := hlF.out k hk; simp at hk2; omega))
    have HF3 := Lib.hid (fun many => (HF2.out many).long hcp HN3.out (by omega))
    rw [← hX]
    have zX : w3.heap.size = X.heap.size := by rw [hX]; simp
    clear hX HB3 HR3 hf3 t3 HOW RW HB0 hS k0 c31 z31 HN3 HF2
    have hS := Lib.hid (show ∀ V, Fr [b] X V → V.cell? ⟨r, 1, none⟩ = some (.int .i64 bq) from fun V hV => (three_cells (fr_at hV (by simp; omega) HBX.out)).2.1)
    have k0 := hS.out X (Fr.refl _ _)
    go_upto_region 8 with fail
    go_region_held3 (fun V => V.cell? ⟨r, 1, none⟩ = some (.int .i64 bq)) (first | exact (three_cells (put3_2 HB4.out)).2.1 | exact hS.out _ (by first | exact Fr.refl _ _ | assumption | exact frcA))
      (first | (go_at_call 41; ((with_reducible refine (specSigned _ b s x3 ok3 hs hx3 (RX.out.below (show Below X.heap.size X _ by exact beloA))).mono ?_); rintro e w4 ⟨by_, x4, ok4, rfl, iby, hx4, HN4, HR4, hf4⟩; have t4 : Fr [b] X w4 := (Fr.trans (show Fr [b] X _ by exact frcA) hf4); have y4 := t4.size; have HB4 := Lib.hid (fr_at t4 (show r ∉ [b] by simp; omega) HBX.out); have c42 := (three_cells HB4.out).2.2; have z42 := blk_frozen HB4.out 2)) | (go_at_call 43; ((with_reducible refine (specLeast_ _ _ _).mono ?_); rintro e w6 ⟨rfl, rfl⟩)) | (go_at_call 42; ((with_reducible refine (specMost_ _ _ _).mono ?_); rintro e w6 ⟨rfl, rfl⟩; obtain ⟨pq, ep⟩ : ∃ z, max (-1000000) (min 1000000 by_) = z := ⟨_, rfl⟩; obtain ⟨dq, ed⟩ : ∃ z, bq + pq = z := ⟨_, rfl⟩; have bd1 : -900000000 ≤ dq := (by omega); have bd2 : dq ≤ 900000000 := (by omega); have wdq : IntKind.i64.wrap dq = dq := IntWalk.i64_in _ (by omega))))
    obtain ⟨Y, hY⟩ : ∃ Y, Y = w4.setCell ⟨r, 2, none⟩ (.int .i64 dq) := ⟨_, rfl⟩
    have HBY := Lib.hid (show Y.heap[r]? = some (.cells #[.int .i64 a, .int .i64 bq, .int .i64 dq] 71) from by rw [hY]; exact put3_2 HB4.out)
    have RY := Lib.hid (show RdrB Y b 33 s x4 ok4 from by rw [hY]; exact HR4.out.other (by simp; omega) _)
    have hXY : Fr [b, r] X Y := by rw [hY]; exact Fr.setCell (p := ⟨r, 2, none⟩) (t4.more (by simp)) (by simp) _
    have HOY := Lib.hid (HOX.out.fr hXY (fun k hk hk2 => by have := HFF.out k hk; have := hlF.out k hk; simp at hk2; omega))
    have hfY : Fr [b] w Y := fr_new hfW (fr_new hWX hXY (fun k hk => Or.inl hk)) (fun k hk => by simp at hk ⊢; omega)
    have HFN := Lib.hid (show ∀ many, RFol s x0 ok0 many x4 ok4 (MR (l ++ [(a, bq, dq)]) (cnt - 1)) (rmR (l ++ [(a, bq, dq)])) from fun many => ((HF3.out many).pad hcp HN4.out).row hcp (fun h => h) (fun _ _ _ _ _ _ h => ⟨h, by rw [← HY.out]; omega, by omega, by omega⟩))
    have HYN := Lib.hid (show bq = endOf (l ++ [(a, bq, dq)]) by rw [endOf_snoc])
    have hy1' : -2000000 * (300 - (cnt - 1)) ≤ bq ∧ bq ≤ 2000000 * (300 - (cnt - 1)) := by omega
    obtain ⟨hyn0, hyn1⟩ := hy1'
    have zY : w4.heap.size = Y.heap.size := by rw [hY]; simp
    have hrY : r < Y.heap.size := blk_size HBY.out
    have hbY : b < Y.heap.size := by omega
    rw [← hY]
    obtain ⟨c0, c1, c2⟩ := three_cells HBY.out
    clear hY HB4 HR4 hf4 t4 HOX RX HBX hS k0 c42 z42 HN4 HF3 hXY hWX hfW ea eb ed ep hf02 hf2 hf
    go_upto_region 10 with (first
        | (at_builtin; refine wpl_own1 _ rfl _ _ 37 rfl RowR 71 inf (.agg #[.int .i64 0, .int .i64 0, .int .i64 0]) 3 24 Tryz.underlying37 HIF.out HZ0.out HZ1.out HZ2.out rfl rfl (by decide) (.slice A n c) l.length l F rfl rfl (HOY.out.below (show Below Y.heap.size Y _ by exact belA)) ⟨Y.heap.size, 0, none⟩ 1 [.int .i64 a, .int .i64 bq, .int .i64 dq] (a, bq, dq) [] rfl (cells_new _ _ _ (by simp)) (Row_own _ a bq dq (by unfold I64; omega) (by unfold I64; omega) (by unfold I64; omega)) rowS_one (fun j hj => by cases hj) (by omega) (by decide) ?_))
    intro v' w5 F' ho' hgr hF'
    obtain ⟨A', n', c', rfl, _⟩ := ho'.form
    have HO' := Lib.hid ho'
    have hbA : Below Y.heap.size Y (Y.alloc (.cells #[.int .i64 a, .int .i64 bq, .int .i64 dq] 71)) := by exact belA
    have HFF' := Lib.hid (show ∀ j, j ∈ F' → w.heap.size ≤ j from fun j hj => by
      rcases hF' j hj with h | h
      · exact HFF.out j h
      · rw [h]; first | omega | (simp; omega))
    have hown := HOY.out.ownB
    have hf5 : Fr [b] w w5 := fr_new hfY (Fr.trans (Fr.of_below (F := (Value.slice A n c).ownBlock.toList) hbA) (grown_fr hgr)) (fun k hk => Or.inr (HFF.out k (hown k (by simpa using hk))))
    have R5 := Lib.hid ((RY.out.below hbA).grown hgr (fun g hg => by have := HFF.out g (hown g hg); omega))
    have hcb : w5.cell? ⟨r, 1, none⟩ = some (.int .i64 bq) := cell_fr (grown_fr hgr) (fun hk => by
      have h1 := hlF.out r (hown _ (by simpa using hk))
      omega) (below_cell hbA c1)
    clear ho' hgr hF' hown hbA RY c0 c1 c2 HBY HOY
    go_wp2_with fail
    go_roundw
    case rel => exact ⟨cnt - 1, x4, bq, ok4, A', n', c', l ++ [(a, bq, dq)], F', rfl, rfl, rfl, hx4, ⟨by omega, by omega⟩, ⟨hyn0, hyn1⟩, HYN, by simp only [List.length_append, List.length_singleton]; omega, Or.inl (by omega), HO', HFF', HFN, R5, hf5⟩
    case measure => simp [intOf]; omega
end Go.Proofs.YtgoinmdnpaknpaaGreat
