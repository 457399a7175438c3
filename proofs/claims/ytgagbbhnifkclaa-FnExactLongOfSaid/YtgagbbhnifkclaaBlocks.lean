/- Whether each statement stands just once: the reference's walk over the blocks. -/
import Derived.Test.YtgagbbhnifkclaaOrderS
import Derived.Test.YtgagbbhnifkclaaRising
set_option linter.unusedVariables false
set_option linter.unusedSimpArgs false
set_option maxRecDepth 100000
namespace Go.Proofs.Ytgagbbhnifkclaa
open Go.RowKit
/-- The blocks: the body, then the two of each statement; whose each is. -/
def blkAt (body : List Int) (ss : List Stmt) (i : Nat) : List Int := if i = 0 then body else if i % 2 = 1 then thenOf ss (((i - 1) / 2 : Nat) : Int) else elseOf ss (((i - 1) / 2 : Nat) : Int)
def ownAt (i : Nat) : Int := if i = 0 then -1 else (((i - 1) / 2 : Nat) : Int)
def blkOk (N : Nat) (b : List Int) (o : Int) : Bool := risB b 0 ((N : Int) - 1) && b.all fun n => decide (o < n)
def cnts (N : Nat) (L : List Int) : List Int := (List.range N).map fun (j : Nat) => ((L.count (j : Int) : Nat) : Int)
def catTo (body : List Int) (ss : List Stmt) (k : Nat) : List Int := (List.range k).flatMap (blkAt body ss)
def blocksB (body : List Int) (ss : List Stmt) : Bool := ((List.range (1 + 2 * ss.length)).all fun i => blkOk ss.length (blkAt body ss i) (ownAt i)) && (cnts ss.length (catTo body ss (1 + 2 * ss.length))).all fun x => inB x 1 1
theorem cnts_len (N : Nat) (L : List Int) : (cnts N L).length = N := by simp [cnts]
theorem cnts_nil (N : Nat) : cnts N [] = List.replicate N 0 := by
  apply List.ext_getElem
  · simp [cnts]
  · intro i h1 h2; simp [cnts]
theorem cnts_at {N : Nat} {L : List Int} {j : Nat} (h : j < N) : (cnts N L)[j]'(by rw [cnts_len]; exact h) = ((L.count (j : Int) : Nat) : Int) := by simp [cnts]
theorem cnts_snoc {N : Nat} {L : List Int} {j : Nat} (h : j < N) : (cnts N L).set j (((L.count (j : Int) : Nat) : Int) + 1) = cnts N (L ++ [(j : Int)]) := by
  apply List.ext_getElem
  · simp [cnts]
  · intro i h1 h2
    have hi : i < N := by simpa [cnts] using h2
    rw [cnts_at hi, List.getElem_set, List.count_append]
    by_cases hij : j = i
    · subst hij; simp
    · rw [if_neg hij, cnts_at hi, List.count_singleton]
      have : ((j : Int) == (i : Int)) = false := by simpa using fun h => hij (by omega)
      rw [this]; simp
theorem catTo_succ (body : List Int) (ss : List Stmt) (k : Nat) : catTo body ss (k + 1) = catTo body ss k ++ blkAt body ss k := by
  unfold catTo; rw [List.range_succ, List.flatMap_append]; simp
theorem risB_in {l : List Int} {a b : Int} (h : risB l a b = true) : ∀ x, x ∈ l → a ≤ x ∧ x ≤ b := by
  intro x hx
  obtain ⟨i, hi, rfl⟩ := List.getElem_of_mem hx
  unfold risB at h
  rw [List.all_eq_true] at h
  have := h i (List.mem_range.2 hi)
  rw [risP_of hi rfl, Bool.and_eq_true] at this
  exact inB_iff.1 this.1
theorem catTo_count {body : List Int} {ss : List Stmt} {N : Nat} (x : Int) : ∀ {p : Nat}, ((List.range p).all fun i => blkOk N (blkAt body ss i) (ownAt i)) = true → (catTo body ss p).count x ≤ p
  | 0, _ => by simp [catTo]
  | p + 1, h => by
    rw [List.range_succ, List.all_append, Bool.and_eq_true] at h
    have h1 := catTo_count x h.1
    have h2 := h.2
    simp [blkOk] at h2
    have h3 := risB_count h2.1 x
    rw [catTo_succ, List.count_append]; omega
/-- A row of slices that read as the blocks. -/
def Blks (w : World) (lo hi : Nat) (body : List Int) (ss : List Stmt) (xs : List Value) : Prop := ∀ i, i < xs.length → ∃ A n c, xs[i]? = some (.slice A n c) ∧ Sl intR w lo hi A n c (blkAt body ss i)
theorem apart_or {v u : Value} (h : ∀ g, v.ownBlock = some g → ¬ u.ownBlock = some g) : u.ownBlock = none ∨ u.ownBlock ≠ v.ownBlock := by
  rcases hu : u.ownBlock with _ | g
  · exact Or.inl rfl
  · exact Or.inr fun e => h g e.symm hu
theorem apart_sym {v u : Value} (h : ∀ g, v.ownBlock = some g → ¬ u.ownBlock = some g) : ∀ g, u.ownBlock = some g → ¬ v.ownBlock = some g := fun g h1 h2 => h g h2 h1
/-- One of two rows that lie apart has grown: they lie apart still. -/
theorem apart_grow {v v' u : Value} {N : Nat} (h : ∀ g, v.ownBlock = some g → ¬ u.ownBlock = some g) (hat : v'.ownBlock = v.ownBlock ∨ v'.ownBlock = some N) (hu : ∀ g, u.ownBlock = some g → g < N) : ∀ g, v'.ownBlock = some g → ¬ u.ownBlock = some g := by
  intro g hg hg'
  rcases hat with e | e
  · rw [e] at hg; exact h g hg hg'
  · rw [e] at hg; injection hg with hg; have := hu g hg'; omega
theorem cell_newN {w : World} {g : Nat} (cs : Array Value) (t : TypeId) (hg : w.heap.size = g) : ∀ j v, cs.toList[j]? = some v → (w.alloc (.cells cs t)).cell? ((⟨g, 0, none⟩ : Addr).add j) = some v := by
  subst hg; exact World.news_of_block (fr := (0, 0)) (heap_alloc_new w _)
theorem lit_row {w : World} {g base : Nat} {cs : Array Value} {t : TypeId} {n : Nat} (hg : w.heap[g]? = some (.cells cs t (0, 0))) (hb : base ≤ g) (hn : cs.size = n) (hm : n ≤ maxLen) : w.ownsRow base t 1 (.slice (some ⟨g, 0, none⟩) n n) n cs.toList := by
  refine ⟨by rw [Array.length_toList]; omega, Or.inr ⟨g, n, cs, rfl, hb, hg, Nat.le_refl _, hm, by omega, ?_⟩⟩
  rw [Nat.mul_one, ← hn, List.take_of_length_le (by rw [Array.length_toList]; exact Nat.le_refl _)]
theorem Try.infoInts : (Try.prog.info? 33).map (fun i => (i.zero, i.size, i.bytes)) = some (some (.slice none 0 0), 1, 24) := by kernel_rfl
set_option maxHeartbeats 8000000 in
theorem specL3Blocks (w : World) (lo hi : Nat) (x0 x1 : Int) (Ab : Option Addr) (nb cb : Nat) (body : List Int) (A : Option Addr) (n c : Nat) (ss : List Stmt) (hB : Sl intR w lo hi Ab nb cb body) (h : Sl StmtR w lo hi A n c ss) (hh : hi ≤ w.heap.size) (hn : n ≤ 1048576) :
    Calls Try.prog 209 #[.agg #[.int .i64 x0, .int .i64 x1, .slice Ab nb cb, .slice A n c]] w (RetB (blocksB body ss) w) := by
  have e1 := h.lenEq
  have b1 := h.lenLe
  have B0 := Lib.hid (show blkAt body ss 0 = body from rfl)
  obtain ⟨inf, hif, hz0, hz1, hz2⟩ := info_parts Try.infoInt
  obtain ⟨ins, his, sz0, sz1, sz2⟩ := info_parts Try.infoInts
  go_enter Try.func209, Try.ntmps209
  go_wp2_with (at_make; refine wpList_make_full _ rfl _ _ 33 rfl 0 3 inf (.int .i64 0) 1 Try.underlying33 hif hz0 hz1 _ _ _ _ n rfl rfl rfl rfl (by rw [hz2]; omega) (by unfold maxLen; omega) (Nat.zero_le _) ?_)
  intro w1 hown hg
  have hb1 : Below (w.heap.size + 1) (w.alloc (.cells #[.int .i64 x0, .int .i64 x1, .slice Ab nb cb, .slice A n c] 139)) w1 := (Below.refl _ _).grown hg (by simp) (fun k hk => by cases hk)
  have hbw1 : Below w.heap.size w w1 := ((Below.refl _ w).alloc (Nat.le_refl _) _).trans (hb1.mono (Nat.le_succ _))
  have hM : w.heap.size + 1 < w1.heap.size := (hown.lt (w.heap.size + 1) rfl).2
  have hM0 : w.heap.size < w1.heap.size := by omega
  have hM1 : w.heap.size < w1.heap.size + 1 := by omega
  have q2 : w1.cell? ⟨w.heap.size, 2, none⟩ = some (.slice Ab nb cb) := (hb1.cell (p := ⟨w.heap.size, 2, none⟩) (by simp)).trans (by simp [go_sem])
  have q3 : w1.cell? ⟨w.heap.size, 3, none⟩ = some (.slice A n c) := (hb1.cell (p := ⟨w.heap.size, 3, none⟩) (by simp)).trans (by simp [go_sem])
  rw [toList_madeCells_one, ← List.map_replicate (f := Value.int .i64) (a := 0), ← cnts_nil] at hown
  have hseen := hown
  clear hown hg
  go_wp2_with fail
  go_loopw [4, 5, 23] (fun vb vo i wr => ∃ (k : Nat) (xs : List Value), k ≤ n ∧ i = .int .i64 k ∧ wr.ownsRow w1.heap.size 33 1 vb (1 + 2 * k) xs ∧ Blks w lo hi body ss xs ∧ wr.ownsRow w1.heap.size 3 1 vo (1 + 2 * k) (((List.range (1 + 2 * k)).map ownAt).map (Value.int .i64)) ∧ (∀ g, vb.ownBlock = some g → ¬ vo.ownBlock = some g) ∧ Below w1.heap.size w1 wr) (fun _ _ i _ => n - (intOf i).toNat)
  case atStart =>
    refine ⟨0, [.slice Ab nb cb], Nat.zero_le _, rfl, ?_, ?_, ?_, ?_, by (repeat (first | with_reducible exact Below.refl _ _ | with_reducible assumption | with_reducible refine below_alloc ?_ _ | ((with_reducible refine Below.setCell ?_ ?_ _); rotate_left; (· first | exact Nat.le_refl _ | (simp; done) | (simp; omega))) | with_reducible refine below_drewN ?_ _ | with_reducible refine Below.drew ?_ | with_reducible refine below_then ?_ (by with_reducible assumption)))⟩
    · exact (lit_row (cs := #[.slice Ab nb cb]) (heap_alloc_new _ _) (Nat.le_refl _) rfl (by unfold maxLen; simp)).alloc _
    · intro i hi
      obtain rfl : i = 0 := by simp at hi; omega
      exact ⟨_, _, _, rfl, hB⟩
    · exact lit_row (cs := #[.int .i64 (-1)]) (by rw [show w1.heap.size + 1 = (w1.alloc (.cells #[.slice Ab nb cb] 33)).heap.size by simp]; exact heap_alloc_new _ _) (by omega) rfl (by unfold maxLen; simp)
    · intro g hg hg'
      simp [Value.ownBlock] at hg hg'
      omega
  case round =>
    obtain ⟨k, xs, hk, rfl, hob, hBl, hoo, hne, hb⟩ := hrel
    have hbw : Below w.heap.size w wr := below_then hbw1 (hb.mono (Nat.le_refl _))
    have hzr := hb.size
    by_cases hlt : k < n
    · obtain ⟨bb, oo, y0, y1, A2, n2, c2, s2, A3, n3, c3, s3, A4, n4, c4, s4, rfl, hb1', hb2', hl0, i0, i1, h2, h3, h4, d0, d1, d2, d3, d4⟩ := Stmt_at h hlt
      have D0 := below_cell hbw d0
      have D1 := below_cell hbw d1
      have D2 := below_cell hbw d2
      have D3 := below_cell hbw d3
      have D4 := below_cell hbw d4
      have hT3 : thenOf ss (k : Int) = s3 := by unfold thenOf; rw [show ((k : Int)).toNat = k from rfl, List.getElem?_eq_getElem (by omega), hl0]; rfl
      have hT4 : elseOf ss (k : Int) = s4 := by unfold elseOf; rw [show ((k : Int)).toNat = k from rfl, List.getElem?_eq_getElem (by omega), hl0]; rfl
      have hxl : xs.length = 1 + 2 * k := by have := hob.1; omega
      have hBl2 : Blks w lo hi body ss (xs ++ [.slice A3 n3 c3, .slice A4 n4 c4]) := by
        intro i hi'
        simp only [List.length_append, List.length_cons, List.length_nil] at hi'
        by_cases h1 : i < xs.length
        · obtain ⟨A', n', c', q1, q2⟩ := hBl i h1
          exact ⟨A', n', c', by rw [List.getElem?_append_left h1]; exact q1, q2⟩
        · by_cases h2 : i = 1 + 2 * k
          · refine ⟨A3, n3, c3, by rw [List.getElem?_append_right (by omega), hxl, h2]; simp, ?_⟩
            have : blkAt body ss i = s3 := by rw [← hT3]; unfold blkAt; rw [if_neg (by omega), if_pos (by omega), show (i - 1) / 2 = k by omega]
            rw [this]; exact h3
          · refine ⟨A4, n4, c4, by rw [List.getElem?_append_right (by omega), hxl, show i - (1 + 2 * k) = 1 by omega]; rfl, ?_⟩
            have : blkAt body ss i = s4 := by rw [← hT4]; unfold blkAt; rw [if_neg (by omega), if_neg (by omega), show (i - 1) / 2 = k by omega]
            rw [this]; exact h4
      have hO2 : ((List.range (1 + 2 * k)).map ownAt).map (Value.int .i64) ++ [.int .i64 (k : Int), .int .i64 (k : Int)] = ((List.range (1 + 2 * (k + 1))).map ownAt).map (Value.int .i64) := by
        rw [show 1 + 2 * (k + 1) = (1 + 2 * k) + 1 + 1 by omega, List.range_succ, List.range_succ]
        have o1 : ownAt (1 + 2 * k) = (k : Int) := by unfold ownAt; rw [if_neg (by omega), show (1 + 2 * k - 1) / 2 = k by omega]
        have o2 : ownAt (1 + 2 * k + 1) = (k : Int) := by unfold ownAt; rw [if_neg (by omega), show (1 + 2 * k + 1 - 1) / 2 = k by omega]
        simp [o1, o2]
      have HO2 := Lib.hid hO2
      clear hO2
      have HBl2 := Lib.hid hBl2
      have HNE := Lib.hid hne
      have HBl := Lib.hid hBl
      clear hl0 hT3 hT4 hxl hBl2 hne hBl d0 d1 d2 d3 d4
      go_wp2_with (at_builtin; refine wpList_append_own_at _ rfl _ _ 57 rfl w1.heap.size 33 ins (.slice none 0 0) 1 24 Try.underlying57 his sz0 sz1 sz2 rfl (by decide) _ _ _ rfl ((hob.alloc _).alloc _) ⟨wr.heap.size + 1, 0, none⟩ 2 2 [.slice A3 n3 c3, .slice A4 n4 c4] rfl rfl (cell_newN #[.slice A3 n3 c3, .slice A4 n4 c4] _ (by simp)) (by simp [Value.oneCell']) (by unfold maxLen; omega) (by omega) (by simp; omega) ?_)
      intro vb2 w2 hown1 hgr1 _ hat1
      have hoo1 := ((hoo.alloc (.cells #[.int .i64 y0, .int .i64 y1, .slice A2 n2 c2, .slice A3 n3 c3, .slice A4 n4 c4] 154)).alloc (.cells #[.slice A3 n3 c3, .slice A4 n4 c4] 33)).kept hgr1 (apart_or HNE.out)
      have hne1 := Lib.hid (apart_grow HNE.out hat1 (fun g hg => by have := (hoo.lt g hg).2; omega))
      have hbl2 : Below w1.heap.size w1 w2 := ((hb.alloc hzr _).alloc (by simp; omega) _).grown hgr1 (by simp; omega) (fun g hg => (hob.lt g hg).1)
      have hz2' := hbl2.size
      clear hgr1 hat1 HNE HBl hob
      go_wp2_with (at_builtin; refine wpList_append_own_at _ rfl _ _ 33 rfl w1.heap.size 3 inf (.int .i64 0) 1 8 Try.underlying33 hif hz0 hz1 hz2 rfl (by decide) _ _ _ rfl (hoo1.alloc _) ⟨w2.heap.size, 0, none⟩ 2 2 [.int .i64 (k : Int), .int .i64 (k : Int)] rfl rfl (cell_newN #[.int .i64 (k : Int), .int .i64 (k : Int)] _ (by simp)) (by simp [Value.oneCell']) (by unfold maxLen; omega) (by omega) (by simp; omega) ?_)
      intro vo2 w3 hown2 hgr2 _ hat2
      have hob2 := (hown1.alloc (.cells #[.int .i64 (k : Int), .int .i64 (k : Int)] 3)).kept hgr2 (apart_or (apart_sym hne1.out))
      have hne2 := apart_sym (apart_grow (apart_sym hne1.out) hat2 (fun g hg => by have := (hown1.lt g hg).2; simp; omega))
      have hbl3 : Below w1.heap.size w1 w3 := (hbl2.alloc hz2' _).grown hgr2 (by simp; omega) (fun g hg => (hoo1.lt g hg).1)
      have hoo2 : w3.ownsRow w1.heap.size 3 1 vo2 (1 + 2 * (k + 1)) (((List.range (1 + 2 * (k + 1))).map ownAt).map (Value.int .i64)) := by
        have e := hown2
        rw [← List.map_map] at e
        rw [← HO2.out]; exact e
      clear hgr2 hat2 hown1 hown2 hoo hoo1
      go_wp2_with fail
      go_roundw
      case rel => exact ⟨k + 1, _, by omega, by go_num, hob2, HBl2.out, hoo2, hne2, hbl3⟩
      case measure => simp [intOf]; omega
    · obtain rfl : k = n := by omega
      obtain ⟨wm, rfl⟩ : ∃ wm, wm = wr := ⟨_, rfl⟩
      have hxl : xs.length = 1 + 2 * k := by have := hob.1; omega
      have r3 : wm.cell? ⟨w.heap.size, 3, none⟩ = some (.slice A k c) := below_cell (w := w1) hb q3
      have hse : wm.ownsRow 0 3 1 (.slice (some ⟨w.heap.size + 1, 0, none⟩) k k) k ((cnts k (catTo body ss 0)).map (Value.int .i64)) := ownsRow_below hseen hb
      obtain ⟨gb, capb, hu4, hgb, _⟩ := hob.form (by omega)
      obtain ⟨go, capo, hu5, hgo, _⟩ := hoo.form (by omega)
      subst hu4 hu5
      have hfw : Fr [w.heap.size + 1] w wm := Fr.of_below hbw
      have HR := Lib.hid e1
      clear hseen q2 q3 hb1 hbw1 hne
      go_wp2_with fail
      go_loopw [43] (fun i wq => ∃ p : Nat, p ≤ 1 + 2 * k ∧ i = .int .i64 p ∧ ((List.range p).all fun i => blkOk ss.length (blkAt body ss i) (ownAt i)) = true ∧ wq.ownsRow 0 3 1 (.slice (some ⟨w.heap.size + 1, 0, none⟩) k k) k ((cnts k (catTo body ss p)).map (Value.int .i64)) ∧ Fr [w.heap.size + 1] wm wq) (fun i _ => 1 + 2 * k - (intOf i).toNat)
      case atStart => exact ⟨0, Nat.zero_le _, rfl, rfl, hse, Fr.refl _ _⟩
      case round =>
        obtain ⟨p, hp, rfl, hall0, hsq, hfq⟩ := hrel
        have hall := Lib.hid hall0
        clear hall0
        by_cases hpl : p < 1 + 2 * k
        · obtain ⟨A', n', c', hx1, hS0⟩ := hBl p (by omega)
          have kb := hob.cellAt p (by omega)
          rw [hx1] at kb
          have ko := hoo.cellAt p (by omega)
          rw [show (((List.range (1 + 2 * k)).map ownAt).map (Value.int .i64))[p]? = some (.int .i64 (ownAt p)) by simp [hpl]] at ko
          have kb1 := cell_fr hfq (by simp; omega) kb
          have ko1 := cell_fr hfq (by simp; omega) ko
          have kr1 := cell_fr hfq (by simp) r3
          have hfwq : Fr [w.heap.size + 1] w wr := hfw.trans hfq
          have hS1 := hS0.fr hfwq hh (fun g hg => Or.inr (by simp at hg; omega))
          have hzq := hfwq.size
          have hno := Lib.hid (fun (hq : blkOk ss.length (blkAt body ss p) (ownAt p) = false) => show blocksB body ss = false by unfold blocksB; rw [range_all_false (n := 1 + 2 * ss.length) (k := p) (by rw [e1]; exact hpl) hq]; rfl)
          have hyes := Lib.hid (fun (hq : blkOk ss.length (blkAt body ss p) (ownAt p) = true) => range_all_succ (p := fun i => blkOk ss.length (blkAt body ss i) (ownAt i)) hall.out hq)
          have hcat := Lib.hid (catTo_succ body ss p)
          generalize hbl0 : blkAt body ss p = bl at hS0 hS1
          have hbl := Lib.hid hbl0
          have eb := hS0.lenEq
          have bb := hS0.lenLe
          generalize ho0 : ownAt p = o at ko ko1
          have hoE := Lib.hid ho0
          clear hx1 kb ko hbl0 ho0
          by_cases hr : risB bl 0 ((k : Int) - 1) = true
          · have hin := Lib.hid (risB_in hr)
            go_wp2_with fail
            refine (specL1Rising _ lo hi n' c' A' bl 0 ((k : Int) - 1) hS1 (by omega)).mono ?_
            rintro e w2 ⟨rfl, hb2⟩
            have hf2 : Fr [w.heap.size + 1] wm w2 := hfq.trans (Fr.of_below hb2)
            have hs2 := ownsRow_below hsq hb2
            have ko2 := below_cell hb2 ko1
            clear hsq
            go_wp2_with fail
            go_loopw [57] (fun i wq => ∃ q : Nat, q ≤ n' ∧ i = .int .i64 q ∧ ((bl.take q).all fun x => decide (o < x)) = true ∧ wq.ownsRow 0 3 1 (.slice (some ⟨w.heap.size + 1, 0, none⟩) k k) k ((cnts k (catTo body ss p ++ bl.take q)).map (Value.int .i64)) ∧ Fr [w.heap.size + 1] w2 wq) (fun i _ => n' - (intOf i).toNat)
            case atStart => exact ⟨0, Nat.zero_le _, rfl, rfl, by simpa using hs2, Fr.refl _ _⟩
            case round =>
              obtain ⟨q, hq, rfl, hal0, hsq, hfi⟩ := hrel
              have hal := Lib.hid hal0
              clear hal0
              have hfm := hf2.trans hfi
              by_cases hql : q < n'
              · have hS3 := hS0.fr (hfw.trans hfm) hh (fun g hg => Or.inr (by simp at hg; omega))
                obtain ⟨b', o', rfl, hlo', hhi', hc3, _⟩ := hS3.int_at hql
                have hxin := hin.out (bl[q]'(by omega)) (List.getElem_mem _)
                have htk := List.take_succ_eq_append_getElem (l := bl) (i := q) (by omega)
                generalize hx0 : bl[q]'(by omega) = x at hc3 hxin htk
                obtain ⟨j, rfl⟩ := Int.eq_ofNat_of_zero_le hxin.1
                have hjk : j < k := by omega
                have ko3 := cell_fr hfi (by simp; omega) ko2
                have hcs := hsq.cellAt j (by omega)
                rw [List.getElem?_map, List.getElem?_eq_getElem (by rw [cnts_len]; exact hjk), cnts_at hjk, Option.map_some] at hcs
                have hlc : (catTo body ss p ++ bl.take q).count (j : Int) ≤ 1 + 2 * k + 1 := by
                  have c1 := catTo_count (j : Int) hall.out
                  have c2 := risB_count hr (j : Int)
                  have c3 := (List.take_sublist q bl).count_le (j : Int)
                  rw [List.count_append]; omega
                by_cases hox : o < (j : Int)
                · have hst := (hsq.stored j (.int .i64 ((((catTo body ss p ++ bl.take q).count (j : Int) : Nat) : Int) + 1))).1
                  rw [← List.map_set, cnts_snoc hjk, List.append_assoc, ← htk] at hst
                  have hal2 := Lib.hid (all_take_succ (p := fun x => decide (o < x)) hal.out (by omega) (by rw [hx0]; simpa using hox))
                  have hfz := hsq.frozenAt j
                  have hfn : Fr [w.heap.size + 1] w2 (wr.setCell ⟨w.heap.size + 1, j, none⟩ (.int .i64 ((((catTo body ss p ++ bl.take q).count (j : Int) : Nat) : Int) + 1))) := hfi.setCell (by simp) _
                  generalize hcq : (catTo body ss p ++ bl.take q).count (j : Int) = cq at hcs hst hfn hlc
                  have hcqH := Lib.hid hcq
                  clear htk hx0 hcq
                  have hd : decide ((j : Int) ≤ o) = false := by simp; omega
                  go_wp2_with fail
                  go_roundw
                  case rel => exact ⟨q + 1, by omega, by go_num, hal2.out, hst, hfn⟩
                  case measure => simp [intOf]; omega
                · have hno2 := Lib.hid (hno.out (by rw [hbl.out, hoE.out]; unfold blkOk; rw [all_false (l := bl) (k := q) (by omega) (by rw [hx0]; simpa using hox)]; simp))
                  have hd : decide ((j : Int) ≤ o) = true := by simp; omega
                  clear htk hx0 hlc
                  go_wp2_with fail
                  go_ret
                  exact RetB.mk hno2.out.symm (below_fr hbw hfm (by simp))
              · have hqn : q = n' := by omega
                have htl : bl.take q = bl := List.take_of_length_le (by omega)
                rw [htl, ← hbl.out, ← catTo_succ] at hsq
                have hal1 := hal.out
                rw [htl] at hal1
                have hy := Lib.hid (hyes.out (by rw [hbl.out, hoE.out]; unfold blkOk; rw [e1, hr, hal1]; rfl))
                clear htl hal1 hqn
                go_wp2_with fail
                go_roundw
                case rel => exact ⟨p + 1, by omega, by go_num, hy.out, hsq, hfm⟩
                case measure => simp [intOf]; omega
          · have hr : risB bl 0 ((k : Int) - 1) = false := by simpa using hr
            have hno2 := Lib.hid (hno.out (by rw [hbl.out, hoE.out]; unfold blkOk; rw [e1, hr]; rfl))
            go_wp2_with fail
            refine (specL1Rising _ lo hi n' c' A' bl 0 ((k : Int) - 1) hS1 (by omega)).mono ?_
            rintro e w2 ⟨rfl, hb2⟩
            go_wp2_with fail
            go_ret
            exact RetB.mk hno2.out.symm (below_then (below_fr hbw hfq (by simp)) hb2)
        · obtain rfl : p = 1 + 2 * k := by omega
          have hfin := Lib.hid (show blocksB body ss = (cnts k (catTo body ss (1 + 2 * k))).all fun x => inB x 1 1 by unfold blocksB; have := hall.out; rw [e1] at this ⊢; rw [this]; rfl)
          have hi64 : ∀ x, x ∈ cnts k (catTo body ss (1 + 2 * k)) → I64 x := by
            intro x hx
            obtain ⟨j, hj, rfl⟩ := List.mem_map.1 hx
            have := catTo_count (j : Int) hall.out
            unfold I64; omega
          have hS := (own_ints (l := cnts k (catTo body ss (1 + 2 * k))) (by rw [cnts_len]; exact hsq) hi64).sl
          clear hi64
          go_wp2_with fail
          refine (specL1All _ 0 _ k k _ _ 1 1 hS (Nat.le_refl _)).mono ?_
          rintro e w2 ⟨rfl, hb2⟩
          go_wp2_with fail
          go_ret
          exact RetB.mk hfin.out.symm (below_then (below_fr hbw hfq (by simp)) hb2)
end Go.Proofs.Ytgagbbhnifkclaa
