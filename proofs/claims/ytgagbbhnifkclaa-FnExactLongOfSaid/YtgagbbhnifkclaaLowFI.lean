/- A function's code: the program's walk. -/
import Derived.Test.YtgagbbhnifkclaaLowM
import Derived.Test.YtgagbbhnifkclaaLowB
set_option linter.unusedVariables false
set_option linter.unusedSimpArgs false
set_option maxRecDepth 100000
namespace Go.Proofs.Ytgagbbhnifkclaa
open Go.RowKit
structure BldSt (w3 wk : World) (L C : Nat) (c0 c1 c2 c3 c4 : Value) (x0 x1 : Int) (v : Value) (xs : List Ins) (vs : Value) (ls : List Int) (vr : Value) (rs : List Row) : Prop where
  st : LowSt wk L c0 c1 c2 c3 c4 v xs
  cs : CSt wk C x0 x1 vs ls (.slice none 0 0) [] vr rs
  fr : Below L w3 wk
  LC : L < C
  vC : ¬ v.ownBlock = some C
  ds : ∀ g, vs.ownBlock = some g → ¬ v.ownBlock = some g
  dr : ∀ g, vr.ownBlock = some g → ¬ v.ownBlock = some g
section
variable {w3 wk wm w' : World} {L C : Nat} {c0 c1 c2 c3 c4 v vs vr u r : Value} {x0 x1 : Int} {xs ys : List Ins} {ls : List Int} {rs : List Row}
theorem LowSt.frame (h : LowSt wk L c0 c1 c2 c3 c4 v xs) (hk : ∀ k, k < wk.heap.size → (k = L ∨ v.ownBlock = some k) → w'.heap[k]? = wk.heap[k]?) : LowSt w' L c0 c1 c2 c3 c4 v xs := by
  have hL := hk L h.lt (Or.inl rfl)
  exact ⟨cell_same hL h.p0, cell_same hL h.p1, cell_same hL h.p2, cell_same hL h.p3, cell_same hL h.p4, cell_same hL h.p5, fun j => (World.frozen?_of_block (w := wk) (a := ⟨L, j, none⟩) hL).trans (h.fz j), h.row.keep (fun k e => hk k (h.row.lt k e).2 (Or.inr e))⟩
theorem BldSt.add {e : Ending} (h : BldSt w3 wk L C c0 c1 c2 c3 c4 x0 x1 v xs vs ls vr rs) (k : RetLow L c0 c1 c2 c3 c4 v ys r wk e w') : ∃ v', e = .returned r ∧ BldSt w3 w' L C c0 c1 c2 c3 c4 x0 x1 v' ys vs ls vr rs := by
  obtain ⟨v', rfl, st, fr, own⟩ := k
  have hLC := h.LC
  have hCk := h.cs.lt
  refine ⟨v', rfl, st, ?_, ?_, h.LC, ?_, ?_, ?_⟩
  · refine h.cs.frame fun k hk hlt ho => fr.block k hlt ?_
    simp only [List.mem_cons, not_or]
    refine ⟨by omega, ?_⟩
    intro hm
    have hm : v.ownBlock = some k := by simpa using hm
    rcases ho with rfl | ho | ho | ho
    · exact h.vC hm
    · exact h.ds k ho hm
    · cases ho
    · exact h.dr k ho hm
  · refine ⟨fr.os.trans h.fr.os, fr.tape.trans h.fr.tape, fr.output.trans h.fr.output, Nat.le_trans h.fr.size fr.size, fun k hk => ?_⟩
    rw [fr.block k (by omega) ?_, h.fr.block k hk]
    simp only [List.mem_cons, not_or]
    exact ⟨by omega, fun hm => by have := (h.st.row.lt k (by simpa using hm)).1; omega⟩
  · rcases own with own | own
    · rw [own]; exact h.vC
    · intro e; have := own C e; omega
  · intro g hg e
    rcases own with own | own
    · rw [own] at e; exact h.ds g hg e
    · have := own g e; have := (h.cs.r2.lt g hg).2; omega
  · intro g hg e
    rcases own with own | own
    · rw [own] at e; exact h.dr g hg e
    · have := own g e; have := (h.cs.r4.lt g hg).2; omega
theorem BldSt.radd {rs' : List Row} (h : BldSt w3 wk L C c0 c1 c2 c3 c4 x0 x1 v xs vs ls vr rs) (hm : Below wk.heap.size wk wm) (hg : wm.grownBy w' vr.ownBlock) (hr : RowRow w' (C + 1) u rs') (hat : u.ownBlock = vr.ownBlock ∨ u.ownBlock = some wm.heap.size) :
    BldSt w3 (w'.setCell ⟨C, 4, none⟩ u) L C c0 c1 c2 c3 c4 x0 x1 v xs vs ls u rs' := by
  have hLC := h.LC
  have hCk := h.cs.lt
  have hms := hm.size
  refine ⟨?_, h.cs.put4 hm hg hr hat, h.fr.trans (put4_fr h.cs.r4 (by omega) (by omega) hm hg), h.LC, h.vC, h.ds, ?_⟩
  · refine h.st.frame fun k hlt ho => ?_
    have hkC : ¬ k = C := by
      rintro rfl
      rcases ho with ho | ho
      · omega
      · exact h.vC ho
    have hkr : ¬ vr.ownBlock = some k := by
      intro e
      rcases ho with ho | ho
      · have := (h.cs.r4.lt k e).1; omega
      · exact h.dr k e ho
    exact (Below.heap_setCell _ _ _ _ hkC).trans ((grown_block hg (Nat.lt_of_lt_of_le hlt hms) hkr).trans (hm.block k hlt))
  · intro g hg' e
    rcases hat with hat | hat
    · rw [hat] at hg'; exact h.dr g hg' e
    · rw [hat] at hg'; injection hg' with hg'; have := (h.st.row.lt g e).2; omega
theorem BldSt.sadd {ls' : List Int} (h : BldSt w3 wk L C c0 c1 c2 c3 c4 x0 x1 v xs vs ls vr rs) (hm : Below wk.heap.size wk wm) (hg : wm.grownBy w' vs.ownBlock) (hr : IntRow w' (C + 1) u ls') (hat : u.ownBlock = vs.ownBlock ∨ u.ownBlock = some wm.heap.size) :
    BldSt w3 (w'.setCell ⟨C, 2, none⟩ u) L C c0 c1 c2 c3 c4 x0 x1 v xs u ls' vr rs := by
  have hLC := h.LC
  have hCk := h.cs.lt
  have hms := hm.size
  refine ⟨?_, h.cs.put2 hm hg hr hat, h.fr.trans (put2_fr h.cs.r2 (by omega) (by omega) hm hg), h.LC, h.vC, ?_, h.dr⟩
  · refine h.st.frame fun k hlt ho => ?_
    have hkC : ¬ k = C := by
      rintro rfl
      rcases ho with ho | ho
      · omega
      · exact h.vC ho
    have hkr : ¬ vs.ownBlock = some k := by
      intro e
      rcases ho with ho | ho
      · have := (h.cs.r2.lt k e).1; omega
      · exact h.ds k e ho
    exact (Below.heap_setCell _ _ _ _ hkC).trans ((grown_block hg (Nat.lt_of_lt_of_le hlt hms) hkr).trans (hm.block k hlt))
  · intro g hg' e
    rcases hat with hat | hat
    · rw [hat] at hg'; exact h.ds g hg' e
    · rw [hat] at hg'; injection hg' with hg'; have := (h.st.row.lt g e).2; omega
theorem BldSt.eq (h : BldSt w3 wk L C c0 c1 c2 c3 c4 x0 x1 v xs vs ls vr rs) {xs' : List Ins} {ls' : List Int} {rs' : List Row} (e1 : xs = xs') (e2 : ls = ls') (e3 : rs = rs') : BldSt w3 wk L C c0 c1 c2 c3 c4 x0 x1 v xs' vs ls' vr rs' := e1 ▸ e2 ▸ e3 ▸ h
theorem BldSt.cell {b o : Nat} {u : Value} (h : BldSt w3 wk L C c0 c1 c2 c3 c4 x0 x1 v xs vs ls vr rs) (hb : b < L) (hc : w3.cell? ⟨b, o, none⟩ = some u) : wk.cell? ⟨b, o, none⟩ = some u := (h.fr.cell (p := ⟨b, o, none⟩) hb).trans hc
end
set_option maxHeartbeats 8000000 in
theorem implLowerFunc (w : World) (lo hi : Nat) (x0 x1 : Int) (Ab : Option Addr) (nb cb : Nat) (body : List Int) (A : Option Addr) (n c : Nat) (ss : List Stmt) (hb : Sl intR w lo hi Ab nb cb body) (h : Sl StmtR w lo hi A n c ss) (hh : hi ≤ w.heap.size) (hf : LowF (x0, x1, body, ss)) (i0 : I64 x0) (i1 : I64 x1) :
    Calls Try.prog 109 #[.agg #[.int .i64 x0, .int .i64 x1, .slice Ab nb cb, .slice A n c]] w (RetCodeB (lowF (x0, x1, body, ss)) true w) := by
  replace h := h.more (Nat.zero_le lo) hh
  replace hb := hb.more (Nat.zero_le lo) hh
  have e1 := h.lenEq
  have HF := Lib.hid hf
  have hlong := hf.long
  simp only at hlong
  have hcl := codeB_long hf
  simp only at hcl
  clear hf
  have HE1 := Lib.hid e1
  have hn : n ≤ 16 := by omega
  clear e1
  go_enter Try.func109, Try.ntmps109
  go_wp2_with fail
  obtain ⟨w1, hw1⟩ : ∃ w1, w1 = (w.alloc (.cells #[.int .i64 x0, .int .i64 x1, .slice Ab nb cb, .slice A n c] 139)).alloc (.cells #[.int .i64 0, .int .i64 0, .slice none 0 0, .slice none 0 0, .slice none 0 0] 44) := ⟨_, rfl⟩
  have xf0 : w1.cell? ⟨w.heap.size, 0, none⟩ = some (.int .i64 x0) := by rw [hw1]; simp [go_sem]
  have xf1 : w1.cell? ⟨w.heap.size, 1, none⟩ = some (.int .i64 x1) := by rw [hw1]; simp [go_sem]
  have xf2 : w1.cell? ⟨w.heap.size, 2, none⟩ = some (.slice Ab nb cb) := by rw [hw1]; simp [go_sem]
  have xf3 : w1.cell? ⟨w.heap.size, 3, none⟩ = some (.slice A n c) := by rw [hw1]; simp [go_sem]
  have xr0 : w1.cell? ⟨w.heap.size + 1, 0, none⟩ = some (.int .i64 0) := by rw [hw1]; simp [go_sem]
  have xr1 : w1.cell? ⟨w.heap.size + 1, 1, none⟩ = some (.int .i64 0) := by rw [hw1]; simp [go_sem]
  have xr2 : w1.cell? ⟨w.heap.size + 1, 2, none⟩ = some (.slice none 0 0) := by rw [hw1]; simp [go_sem]
  have xr3 : w1.cell? ⟨w.heap.size + 1, 3, none⟩ = some (.slice none 0 0) := by rw [hw1]; simp [go_sem]
  have xr4 : w1.cell? ⟨w.heap.size + 1, 4, none⟩ = some (.slice none 0 0) := by rw [hw1]; simp [go_sem]
  have xrf : ∀ j, w1.frozen? ⟨w.heap.size + 1, j, none⟩ = false := fun j => by rw [hw1]; simp [go_sem]
  have hb1 : Below w.heap.size w w1 := by rw [hw1]; (repeat (first | with_reducible exact Below.refl _ _ | with_reducible assumption | with_reducible refine below_alloc ?_ _ | ((with_reducible refine Below.setCell ?_ ?_ _); rotate_left; (· first | exact Nat.le_refl _ | (simp; done) | (simp; omega))) | with_reducible refine below_drewN ?_ _ | with_reducible refine Below.drew ?_ | with_reducible refine below_then ?_ (by with_reducible assumption)))
  have hB : w.heap.size + 1 < w1.heap.size := World.block_lt_of_cell? w1 _ xr0
  have h1 := h.below hb1 (Nat.le_refl _)
  have hbd1 := hb.below hb1 (Nat.le_refl _)
  rw [← hw1]
  clear hw1
  go_region_held3 (fun W => W.cell? ⟨w.heap.size, 0, none⟩ = some (.int .i64 x0) ∧ W.cell? ⟨w.heap.size, 1, none⟩ = some (.int .i64 x1) ∧ W.cell? ⟨w.heap.size, 2, none⟩ = some (.slice Ab nb cb) ∧ W.cell? ⟨w.heap.size, 3, none⟩ = some (.slice A n c))
    (first | exact ⟨xf0, xf1, xf2, xf3⟩ | exact ⟨below_cell hq xf0, below_cell hq xf1, below_cell hq xf2, below_cell hq xf3⟩ | exact ⟨below_cell (hq.alloc hqs _) xf0, below_cell (hq.alloc hqs _) xf1, below_cell (hq.alloc hqs _) xf2, below_cell (hq.alloc hqs _) xf3⟩)
    (first | (go_at_call 106; ((with_reducible refine (implSitesOf _ 0 w.heap.size x0 x1 _ A n c ss (h1.below (show Below w1.heap.size w1 _ by (repeat (first | with_reducible exact Below.refl _ _ | with_reducible assumption | with_reducible refine below_alloc ?_ _ | ((with_reducible refine Below.setCell ?_ ?_ _); rotate_left; (· first | exact Nat.le_refl _ | (simp; done) | (simp; omega))) | with_reducible refine below_drewN ?_ _ | with_reducible refine Below.drew ?_ | with_reducible refine below_then ?_ (by with_reducible assumption)))) (by omega)) (by first | omega | (simp; omega)) (by omega)).mono ?_); rintro e w2 ⟨F2, As, ns, cs, rfl, os, fs, hx⟩; have hq : Below w1.heap.size w1 w2 := (by (repeat (first | with_reducible exact Below.refl _ _ | with_reducible assumption | with_reducible refine below_alloc ?_ _ | ((with_reducible refine Below.setCell ?_ ?_ _); rotate_left; (· first | exact Nat.le_refl _ | (simp; done) | (simp; omega))) | with_reducible refine below_drewN ?_ _ | with_reducible refine Below.drew ?_ | with_reducible refine below_then ?_ (by with_reducible assumption)))); have hqs := hq.size)) | fail)
  obtain ⟨w3, hw3⟩ : ∃ w3, w3 = w2.alloc (.cells #[.int .i64 x0, .int .i64 x1, .slice Ab nb cb, .slice A n c, .slice As ns cs, .slice none 0 0] 211) := ⟨_, rfl⟩
  have hst3 : LowSt w3 w2.heap.size (.int .i64 x0) (.int .i64 x1) (.slice Ab nb cb) (.slice A n c) (.slice As ns cs) (.slice none 0 0) [] := by
    rw [hw3]; exact ⟨by simp [go_sem], by simp [go_sem], by simp [go_sem], by simp [go_sem], by simp [go_sem], by simp [go_sem], fun j => by simp [go_sem], InsRow.nil_ _ _⟩
  have hb13 : Below w1.heap.size w1 w3 := by rw [hw3]; exact hq.alloc hqs _
  have hb23 : Below w2.heap.size w2 w3 := by rw [hw3]; exact Below.alloc (Below.refl _ _) (Nat.le_refl _) _
  have h3 : Sl StmtR w3 0 w2.heap.size A n c ss := (h1.below hb13 (by omega)).more (Nat.le_refl 0) (by omega)
  have hbd3 : Sl intR w3 0 w2.heap.size Ab nb cb body := (hbd1.below hb13 (by omega)).more (Nat.le_refl 0) (by omega)
  have hs3 : Sl intR w3 0 w2.heap.size As ns cs (sitesF ss) := os.sl.below hb23 (Nat.le_refl _)
  have hw03 := hb1.trans (hb13.mono (show w.heap.size ≤ w1.heap.size by omega))
  replace xf0 := below_cell hb13 xf0
  replace xf1 := below_cell hb13 xf1
  replace xf2 := below_cell hb13 xf2
  replace xf3 := below_cell hb13 xf3
  replace xr0 := below_cell hb13 xr0
  replace xr1 := below_cell hb13 xr1
  replace xr2 := below_cell hb13 xr2
  replace xr3 := below_cell hb13 xr3
  replace xr4 := below_cell hb13 xr4
  have hRf : ∀ j, w3.frozen? ⟨w.heap.size + 1, j, none⟩ = false := fun j => (hb13.frozen (p := ⟨w.heap.size + 1, j, none⟩) hB).trans (xrf j)
  rw [← hw3]
  clear hw3 hb1 hb13 hb23 h1 hbd1 os fs hx hq xrf h hb
  have hsl : ns ≤ 4 := by have := HF.out.sites; have := hs3.lenEq; simp only at *; omega
  have HSE := Lib.hid hs3.lenEq
  obtain ⟨L, hL0⟩ : ∃ L, L = w2.heap.size := ⟨_, rfl⟩
  have hwL : w.heap.size + 1 < L := by omega
  rw [← hL0] at hst3 h3 hbd3 hs3 ⊢
  clear hL0 hqs hB
  have hL3 := hst3.lt
  go_wp2_with fail
  refine (implBlockC ss.length w3 L _ _ _ A n c ss As ns cs Ab nb cb body _ [] 0 0 h3 hs3 hbd3 hst3 HF.out.all HF.out.ok HF.out.body (by omega) (by omega) rfl (by omega)).mono ?_
  rintro e w4 hr
  obtain ⟨v4, rfl, hR4⟩ := (LowRun.start hst3).step hr
  clear hr hst3
  have hcok := Lib.hid (codeB_ok (ss := ss) HF.out.ok (by omega) (ss.length + 1) 0 body (by omega))
  obtain ⟨cbs, hcbs⟩ : ∃ x, x = codeB ss (ss.length + 1) 0 body := ⟨_, rfl⟩
  rw [← hcbs] at hcl hR4 hcok
  rw [List.nil_append] at hR4
  have HCB := Lib.hid hcbs
  clear hcbs
  go_wp2_with fail
  refine (implAddAt _ L _ _ _ _ _ v4 cbs 16 0 cbs.length hR4.st rfl (by omega)).mono ?_
  rintro e w5 hr
  obtain ⟨v5, rfl, hR5⟩ := hR4.step hr
  clear hr hR4
  obtain ⟨bs, hbs⟩ : ∃ x, x = cbs ++ [((16 : Int), (0 : Int))] := ⟨_, rfl⟩
  rw [← hbs] at hR5
  have hPl : bs.length = cbs.length + 1 := by rw [hbs]; simp
  obtain ⟨P, hP⟩ : ∃ P, bs.length = P := ⟨_, rfl⟩
  have hP1 : P ≤ 241 := by omega
  have HBS := Lib.hid hbs
  have HP := Lib.hid hP
  obtain ⟨A5, n5, c5, rfl, hn5⟩ := hR5.st.row.form
  obtain rfl : P = n5 := by omega
  clear hbs hPl hP hn5
  have p5 := hR5.st.p5
  have p4 := hR5.st.p4
  have hL5 := hR5.st.lt
  have f0 := hR5.cell (B := w.heap.size) (by omega) (by simp [Value.ownBlock]) xf0
  have f1 := hR5.cell (B := w.heap.size) (by omega) (by simp [Value.ownBlock]) xf1
  have hB5 : Below L w3 (w5.alloc (.cells #[.int .i64 x0, .int .i64 x1, .slice none 0 0, .slice none 0 0, .slice none 0 0] 44)) :=
    Below.alloc ⟨hR5.fr.os, hR5.fr.tape, hR5.fr.output, hR5.fr.size, fun k hk => hR5.fr.block k (by omega) (by simp only [List.mem_cons, not_or]; exact ⟨by omega, by simp [Value.ownBlock]⟩)⟩ (by omega) _
  have hbld0 : BldSt w3 (w5.alloc (.cells #[.int .i64 x0, .int .i64 x1, .slice none 0 0, .slice none 0 0, .slice none 0 0] 44)) L w5.heap.size (.int .i64 x0) (.int .i64 x1) (.slice Ab nb cb) (.slice A n c) (.slice As ns cs) x0 x1 (.slice A5 P c5) bs (.slice none 0 0) [] (.slice none 0 0) [] :=
    ⟨hR5.st.keep (Below.alloc (Below.refl _ _) (Nat.le_refl _) _), CSt.new w5 rfl x0 x1, hB5, hL5, (fun e => by have := (hR5.st.row.lt _ e).2; omega), (fun g hg => by cases hg), (fun g hg => by cases hg)⟩
  go_wp2_with (at_builtin; refine wpl_rapp1 _ rfl _ _ rfl (w5.heap.size + 1) (.slice none 0 0) [] rfl (RowRow.nil_ _ _) ⟨w5.heap.size + 1, 0, none⟩ 1 0 P P rfl (cell_new3 _ _ _ _ _ (by simp)) (by simp) (by first | (simp; done) | (simp; omega)) ?_)
  intro u w6 hown hgr hat
  obtain ⟨A6, n6, c6, rfl, hn6⟩ := hown.form
  clear hn6
  replace hown := hown.eq (l' := [((0 : Int), (P : Int), (P : Int))]) (by first | rfl | (simp; done))
  have hmid := hbld0.cs.mid4 (Below.alloc (Below.refl _ _) (Nat.le_refl _) _) hgr
  obtain ⟨_, _, _, _, m4, mf⟩ := hmid
  have mf4 := mf 4
  have q4 : w6.cell? ⟨L, 4, none⟩ = some (.slice As ns cs) := cell_same (hgr.block L (by simp; omega) (by simp [Value.ownBlock])) ((Below.alloc (Below.alloc (Below.refl _ _) (Nat.le_refl _) _) (by simp) _ : Below w5.heap.size w5 _).cell (p := ⟨L, 4, none⟩) hL5 |>.trans p4)
  have hbld := hbld0.radd (Below.alloc (Below.refl _ _) (Nat.le_refl _) _) hgr hown (hat.imp id (fun e => by simpa using e))
  clear hbld0 hown hgr hat f0 f1 p5 p4 hR5 hB5
  go_wp2_with fail
  obtain ⟨w7, hw7⟩ : ∃ w7, w7 = w6.setCell ⟨w5.heap.size, 4, none⟩ (.slice A6 n6 c6) := ⟨_, rfl⟩
  rw [← hw7] at hbld ⊢
  clear hw7 m4 mf mf4 q4
  obtain ⟨C, hC0⟩ : ∃ C, C = w5.heap.size := ⟨_, rfl⟩
  rw [← hC0] at hbld ⊢
  clear hC0 hL5
  have hLC := hbld.LC
  go_loopw [7] (fun i wr => ∃ k : Nat, k ≤ ns ∧ i = .int .i64 ((ns : Int) - 1 - (k : Int)) ∧ ∃ v vr, BldSt w3 wr L C (.int .i64 x0) (.int .i64 x1) (.slice Ab nb cb) (.slice A n c) (.slice As ns cs) x0 x1 v (bs ++ padK ns k) (.slice none 0 0) [] vr ((0, (P : Int), (P : Int)) :: padRK P k)) (fun i _ => (intOf i + 1).toNat)
  case atStart => exact ⟨0, Nat.zero_le _, by first | go_num | (simp; done) | exact int_eq (by omega), _, _, hbld.eq (by simp [padK]) rfl (by simp [padRK])⟩
  case round =>
    obtain ⟨k, hk, rfl, v, vr, hB⟩ := hrel
    by_cases hlt : k < ns
    · obtain ⟨xs, hxs⟩ : ∃ x, x = bs ++ padK ns k := ⟨_, rfl⟩
      obtain ⟨rs, hrs⟩ : ∃ x, x = (0, (P : Int), (P : Int)) :: padRK P k := ⟨_, rfl⟩
      rw [← hxs, ← hrs] at hB
      have hxl : xs.length = P + k := by rw [hxs, List.length_append, padK_len, HP.out]
      have hrl : rs.length ≤ 10 := by rw [hrs, List.length_cons, padRK_len]; omega
      obtain ⟨a, ha⟩ : ∃ a, P + k = a := ⟨_, rfl⟩
      have ha3 : a ≤ 300 := by omega
      have HXL := Lib.hid (hxl.trans ha)
      have HXS := Lib.hid hxs
      have HRS := Lib.hid hrs
      have HA := Lib.hid ha
      have hge : (0 : Int) ≤ (ns : Int) - 1 - (k : Int) := by omega
      clear hxl hxs hrs ha
      go_wp2_with fail
      refine (implAddAt _ L _ _ _ _ _ v xs 17 _ a hB.st HXL.out (by omega)).mono ?_
      rintro e w8 hr
      obtain ⟨v8, rfl, hB8⟩ := hB.add hr
      clear hr hB
      have kk4 := hB8.cs.k4
      have hm8 : ∀ o, Below w8.heap.size w8 (w8.alloc o) := fun o => Below.alloc (Below.refl _ _) (Nat.le_refl _) o
      have hC8 := hB8.cs.lt
      go_wp2_with (at_builtin; refine wpl_rapp1 _ rfl _ _ rfl (C + 1) vr rs rfl (hB8.cs.r4.below (hm8 _)) ⟨w8.heap.size, 0, none⟩ 1 _ _ _ rfl (cell_new3 _ _ _ _ _ (by simp)) (by omega) (by first | (simp; done) | (simp; omega)) ?_)
      intro u w9 hown hgr hat
      obtain ⟨A9, n9, c9, rfl, hn9⟩ := hown.form
      clear hn9
      replace hown := hown.eq (l' := (0, (P : Int), (P : Int)) :: padRK P (k + 1)) (by rw [padRK_succ, HRS.out]; simp [← HA.out])
      obtain ⟨_, _, _, _, m4, mf⟩ := hB8.cs.mid4 (hm8 _) hgr
      have mf4 := mf 4
      have hB9 := (hB8.radd (hm8 _) hgr hown (hat.imp id (fun e => by simpa using e))).eq (xs' := bs ++ padK ns (k + 1)) (by rw [padK_succ, HXS.out, List.append_assoc, show ((ns - 1 - k : Nat) : Int) = (ns : Int) - 1 - (k : Int) by omega]) rfl rfl
      clear hown hgr hat hB8 mf kk4
      go_wp2_with fail
      go_roundw
      case rel => exact ⟨k + 1, by omega, by first | go_num | exact int_eq (by omega), _, _, hB9⟩
      case measure => simp [intOf]; omega
    · obtain rfl : ns = k := by omega
      obtain ⟨xs, hxs⟩ : ∃ x, x = bs ++ padK ns ns := ⟨_, rfl⟩
      obtain ⟨rs, hrs⟩ : ∃ x, x = (0, (P : Int), (P : Int)) :: padRK P ns := ⟨_, rfl⟩
      rw [← hxs, ← hrs] at hB
      have hxl : xs.length = P + ns := by rw [hxs, List.length_append, padK_len, HP.out]
      obtain ⟨a, ha⟩ : ∃ a, P + ns = a := ⟨_, rfl⟩
      have ha3 : a ≤ 250 := by omega
      have HXL := Lib.hid (hxl.trans ha)
      have HXS := Lib.hid hxs
      have HRS := Lib.hid hrs
      have hge : ¬ (0 : Int) ≤ (ns : Int) - 1 - (ns : Int) := by omega
      clear hxl hxs hrs ha
      go_wp2_with fail
      refine (implAddAt _ L _ _ _ _ _ v xs 18 0 a hB.st HXL.out (by omega)).mono ?_
      rintro e w8 hr
      obtain ⟨v8, rfl, hB8⟩ := hB.add hr
      clear hr hB
      have q4 := hB8.st.p4
      go_wp2_with fail
      go_loopw [71] (fun i wr => ∃ q : Nat, q ≤ ns ∧ i = .int .i64 q ∧ ∃ vs, BldSt w3 wr L C (.int .i64 x0) (.int .i64 x1) (.slice Ab nb cb) (.slice A n c) (.slice As ns cs) x0 x1 v8 (xs ++ [(18, 0)]) vs (((sitesF ss).take q).map (nOf ss)) vr rs) (fun i _ => ns - (intOf i).toNat)
      case atStart => exact ⟨0, Nat.zero_le _, rfl, _, hB8⟩
      case round =>
        obtain ⟨q, hq, rfl, vs, hB⟩ := hrel
        by_cases hlt2 : q < ns
        · obtain ⟨b, o, rfl, _, _, hc1, _⟩ := (hs3.below hB.fr (Nat.le_refl _)).int_at hlt2
          have hlen := HSE.out
          have hx := sitesF_mem ss _ (List.getElem_mem (by omega : q < (sitesF ss).length))
          have hs0 := fun y => take_map_succ (f := nOf ss) (y := y) (l := sitesF ss) (k := q) (by omega)
          generalize (sitesF ss)[q]'(by omega) = x at hc1 hx hs0
          obtain ⟨hx1, hx2⟩ := hx
          obtain ⟨j, rfl⟩ := Int.eq_ofNat_of_zero_le hx1
          have hj : j < n := by have := HE1.out; omega
          have HS := Lib.hid (hs0 _ rfl)
          clear hs0 hlen
          obtain ⟨ls, hls⟩ : ∃ x, x = ((sitesF ss).take q).map (nOf ss) := ⟨_, rfl⟩
          have hlsl : ls.length ≤ 4 := by rw [hls, List.length_map, List.length_take]; omega
          rw [← hls] at hB HS
          clear hls
          obtain ⟨b2, o2, y0, y1, B2, m2, d2, ex, B3, m3, d3, s3, B4, m4, d4, s4, rfl, _, _, hl0, j0, j1, _, _, _, t0, t1, t2, t3, t4⟩ := Stmt_at (h3.below hB.fr (Nat.le_refl _)) hj
          have hN : nOf ss (j : Int) = y1 := by
            have := (exOf_at (ss := ss) (k := j) (by omega)).2.2.1
            rw [hl0] at this; exact this
          rw [hN] at HS
          have kk2 := hB.cs.k2
          have kf2 := hB.cs.kf 2
          have hC8 := hB.cs.lt
          have zf3 := hB.cell (by omega) xf3
          have zlt : w.heap.size < wr.heap.size := World.block_lt_of_cell? wr _ zf3
          have zlt2 : b2 < wr.heap.size := World.block_lt_of_cell? wr _ t1
          have gA : (0 : Int) ≤ (j : Int) := by omega
          have gB : (j : Int) < (n : Int) := by omega
          clear hl0 hN t0 t2 t3 t4
          go_wp2_with fail
          go_region_law (first | ((refine step_iapp1 _ (by rfl) _ _ (by rfl) (C + 1) vs ls (by rfl) (hB.cs.r2.below (show Below wr.heap.size wr _ by (repeat (first | with_reducible exact Below.refl _ _ | with_reducible assumption | with_reducible refine below_alloc ?_ _ | ((with_reducible refine Below.setCell ?_ ?_ _); rotate_left; (· first | exact Nat.le_refl _ | (simp; done) | (simp; omega))) | with_reducible refine below_drewN ?_ _ | with_reducible refine Below.drew ?_ | with_reducible refine below_then ?_ (by with_reducible assumption))))) wr.heap.size 1 y1 (by rfl) (by simp [go_sem]) (by omega) (by first | (simp; done) | (simp; omega)) ?_); intro u w9 hown hgr hat; obtain ⟨A9, n9, c9, rfl, hn9⟩ := hown.form; clear hn9; have mm := hB.cs.mid2 (show Below wr.heap.size wr _ by (repeat (first | with_reducible exact Below.refl _ _ | with_reducible assumption | with_reducible refine below_alloc ?_ _ | ((with_reducible refine Below.setCell ?_ ?_ _); rotate_left; (· first | exact Nat.le_refl _ | (simp; done) | (simp; omega))) | with_reducible refine below_drewN ?_ _ | with_reducible refine Below.drew ?_ | with_reducible refine below_then ?_ (by with_reducible assumption)))) hgr; have mm2 := mm.2.2.1; have mf2 := mm.2.2.2.2.2 2) | fail)
          all_goals
            have hB9 := (hB.sadd (show Below wr.heap.size wr _ by (repeat (first | with_reducible exact Below.refl _ _ | with_reducible assumption | with_reducible refine below_alloc ?_ _ | ((with_reducible refine Below.setCell ?_ ?_ _); rotate_left; (· first | exact Nat.le_refl _ | (simp; done) | (simp; omega))) | with_reducible refine below_drewN ?_ _ | with_reducible refine Below.drew ?_ | with_reducible refine below_then ?_ (by with_reducible assumption)))) hgr hown hat).eq rfl HS.out.symm rfl
            clear hown hgr hat hB mm mm2 mf2
            go_wp2_with fail
            go_roundw
            case rel => exact ⟨q + 1, by omega, by go_num, _, hB9⟩
            case measure => simp [intOf]; omega
        · rw [List.take_of_length_le (by have := HSE.out; omega)] at hB
          obtain ⟨Av, nv, cv, rfl, hnv⟩ := hB.st.row.form
          have hnv2 : nv ≤ 251 := by rw [hnv, List.length_append, HXL.out, List.length_singleton]; omega
          have hnv3 : ¬ (300 : Int) < (nv : Int) := by omega
          clear hnv
          obtain ⟨As', ns', cs', rfl, hns⟩ := hB.cs.r2.form
          obtain ⟨Ar, nr, cr, rfl, hnr⟩ := hB.cs.r4.form
          clear hns hnr
          have p5 := hB.st.p5
          have kk0 := hB.cs.k0
          have kk1 := hB.cs.k1
          have kk2 := hB.cs.k2
          have kk3 := hB.cs.k3
          have kk4 := hB.cs.k4
          have kf := hB.cs.kf 3
          have y0 := hB.cell (by omega) xr0
          have y1 := hB.cell (by omega) xr1
          have y2 := hB.cell (by omega) xr2
          have y3 := hB.cell (by omega) xr3
          have y4 := hB.cell (by omega) xr4
          have yf : ∀ j, wr.frozen? ⟨w.heap.size + 1, j, none⟩ = false := fun j => (hB.fr.frozen (p := ⟨w.heap.size + 1, j, none⟩) hwL).trans (hRf j)
          have hRC : ¬ w.heap.size + 1 = C := by omega
          have hRL : ¬ w.heap.size + 1 = L := by omega
          have hCL : ¬ C = L := by omega
          go_wp2_with fail
          refine bodyPost_ret (v := .tuple #[.agg #[.int .i64 x0, .int .i64 x1, .slice As' ns' cs', .slice Av nv cv, .slice Ar nr cr], .bool true]) (by simp [results, Try.results109, go_sem, y0, y1, y2, y3, y4, hRC]) rfl ?_
          have hlow : lowF (x0, x1, body, ss) = (x0, x1, (sitesF ss).map (nOf ss), xs ++ [(18, 0)], rs) := by
            unfold lowF
            dsimp only
            rw [← HCB.out, ← HBS.out, HP.out, HSE.out, padK_all, padRK_all, HXS.out, HRS.out, List.append_assoc]
          rw [hlow]
          have hk : ∀ k, ¬ k = C → ¬ k = w.heap.size + 1 → ((((((wr.setCell ⟨C, 3, none⟩ (.slice Av nv cv)).setCell ⟨w.heap.size + 1, 0, none⟩ (.int .i64 x0)).setCell ⟨w.heap.size + 1, 1, none⟩ (.int .i64 x1)).setCell ⟨w.heap.size + 1, 2, none⟩ (.slice As' ns' cs')).setCell ⟨w.heap.size + 1, 3, none⟩ (.slice Av nv cv)).setCell ⟨w.heap.size + 1, 4, none⟩ (.slice Ar nr cr)).heap[k]? = wr.heap[k]? := by
            intro k g1 g2
            rw [Below.heap_setCell _ _ _ _ g2, Below.heap_setCell _ _ _ _ g2, Below.heap_setCell _ _ _ _ g2, Below.heap_setCell _ _ _ _ g2, Below.heap_setCell _ _ _ _ g2, Below.heap_setCell _ _ _ _ g1]
          have hbw : Below w.heap.size w wr := hw03.trans (hB.fr.mono (by omega))
          refine RetCodeB.mk (b2 := C + 1) (b3 := L + 1) (b4 := C + 1) (hB.cs.r2.keep fun k e => hk k (by have := (hB.cs.r2.lt k e).1; omega) (by have := (hB.cs.r2.lt k e).1; omega)) (hB.st.row.keep fun k e => hk k (by rintro rfl; exact hB.vC e) (by have := (hB.st.row.lt k e).1; omega)) (hB.cs.r4.keep fun k e => hk k (by have := (hB.cs.r4.lt k e).1; omega) (by have := (hB.cs.r4.lt k e).1; omega)) ?_ ?_ ?_ (by omega) (by omega) (by omega) hB.ds hB.cs.d24 (fun g e e2 => hB.dr g e2 e) ?_
          · intro x hx
            obtain ⟨z, _, rfl⟩ := List.mem_map.1 hx
            have := nOf_ok (ss := ss) HF.out.ok z
            unfold I64; omega
          · intro x hx
            rw [HXS.out, HBS.out] at hx
            simp only [List.mem_append, List.mem_singleton] at hx
            rcases hx with ((hx | rfl) | hx) | rfl
            · exact hcok.out x hx
            · exact ⟨by unfold I64; simp, by unfold I64; simp⟩
            · exact padK_ok (by omega) x hx
            · exact ⟨by unfold I64; simp, by unfold I64; simp⟩
          · intro x hx
            rw [HRS.out] at hx
            rcases List.mem_cons.1 hx with rfl | hx
            · refine ⟨?_, ?_, ?_⟩ <;> (simp only [I64]; omega)
            · exact padRK_ok (by omega) x hx
          · (repeat (first | with_reducible exact Below.refl _ _ | with_reducible assumption | with_reducible refine below_alloc ?_ _ | ((with_reducible refine Below.setCell ?_ ?_ _); rotate_left; (· first | exact Nat.le_refl _ | (simp; done) | (simp; omega))) | with_reducible refine below_drewN ?_ _ | with_reducible refine Below.drew ?_ | with_reducible refine below_then ?_ (by with_reducible assumption)))
end Go.Proofs.Ytgagbbhnifkclaa
