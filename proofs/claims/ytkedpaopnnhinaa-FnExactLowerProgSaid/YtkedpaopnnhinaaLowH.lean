/- Several texts in one: LowFI, LowFS, LowL, LowC2. -/
import Derived.Test.YtkedpaopnnhinaaLowG
import Derived.Deep.RegionLaw
import Derived.Test.YtkedpaopnnhinaaGood3
import Derived.Test.YtkedpaopnnhinaaTyPg

/- A function's code: the program's walk. -/
set_option linter.unusedVariables false
set_option linter.unusedSimpArgs false
set_option maxRecDepth 100000
namespace Go.Proofs.Ytkedpaopnnhinaa
open Go.RowKit
structure BldSt (w3 wk : World) (L C : Nat) (c0 c1 c2 c3 c4 : Value) (x0 x1 : Int) (v : Value) (xs : List Ins) (vs : Value) (ls : List Int) (vr : Value) (rs : List Row) : Prop where
  st : LowSt wk L c0 c1 c2 c3 c4 v xs
  cs : CSt wk C x0 x1 vs ls (.slice none 0 0) [] vr rs
  fr : Below L w3 wk
  LC : L < C
  vC : ¬ v.ownBlock = some C
  ds : ∀ g, vs.ownBlock = some g → ¬ v.ownBlock = some g
  dr : ∀ g, vr.ownBlock = some g → ¬ v.ownBlock = some g
section
variable {w3 wk wm w' : World} {L C : Nat} {c0 c1 c2 c3 c4 v vs vr u r : Value} {x0 x1 : Int} {xs ys : List Ins} {ls : List Int} {rs : List Row}
theorem LowSt.frame (h : LowSt wk L c0 c1 c2 c3 c4 v xs) (hk : ∀ k, k < wk.heap.size → (k = L ∨ v.ownBlock = some k) → w'.heap[k]? = wk.heap[k]?) : LowSt w' L c0 c1 c2 c3 c4 v xs := by
  have hL := hk L h.lt (Or.inl rfl)
  exact ⟨cell_same hL h.p0, cell_same hL h.p1, cell_same hL h.p2, cell_same hL h.p3, cell_same hL h.p4, cell_same hL h.p5, fun j => (World.frozen?_of_block (w := wk) (a := ⟨L, j, none⟩) hL).trans (h.fz j), h.row.keep (fun k e => hk k (h.row.lt k e).2 (Or.inr e))⟩
theorem BldSt.add {e : Ending} (h : BldSt w3 wk L C c0 c1 c2 c3 c4 x0 x1 v xs vs ls vr rs) (k : RetLow L c0 c1 c2 c3 c4 v ys r wk e w') : ∃ v', e = .returned r ∧ BldSt w3 w' L C c0 c1 c2 c3 c4 x0 x1 v' ys vs ls vr rs := by
  obtain ⟨v', rfl, st, fr, own⟩ := k
  have hLC := h.LC
  have hCk := h.cs.lt
  refine ⟨v', rfl, st, ?_, ?_, h.LC, ?_, ?_, ?_⟩
  · refine h.cs.frame fun k hk hlt ho => fr.block k hlt ?_
    simp only [List.mem_cons, not_or]
    refine ⟨by omega, ?_⟩
    intro hm
    have hm : v.ownBlock = some k := by simpa using hm
    rcases ho with rfl | ho | ho | ho
    · exact h.vC hm
    · exact h.ds k ho hm
    · cases ho
    · exact h.dr k ho hm
  · refine ⟨fr.os.trans h.fr.os, fr.tape.trans h.fr.tape, fr.output.trans h.fr.output, Nat.le_trans h.fr.size fr.size, fun k hk => ?_⟩
    rw [fr.block k (by omega) ?_, h.fr.block k hk]
    simp only [List.mem_cons, not_or]
    exact ⟨by omega, fun hm => by have := (h.st.row.lt k (by simpa using hm)).1; omega⟩
  · rcases own with own | own
    · rw [own]; exact h.vC
    · intro e; have := own C e; omega
  · intro g hg e
    rcases own with own | own
    · rw [own] at e; exact h.ds g hg e
    · have := own g e; have := (h.cs.r2.lt g hg).2; omega
  · intro g hg e
    rcases own with own | own
    · rw [own] at e; exact h.dr g hg e
    · have := own g e; have := (h.cs.r4.lt g hg).2; omega
theorem BldSt.radd {rs' : List Row} (h : BldSt w3 wk L C c0 c1 c2 c3 c4 x0 x1 v xs vs ls vr rs) (hm : Below wk.heap.size wk wm) (hg : wm.grownBy w' vr.ownBlock) (hr : RowRow w' (C + 1) u rs') (hat : u.ownBlock = vr.ownBlock ∨ u.ownBlock = some wm.heap.size) :
    BldSt w3 (w'.setCell ⟨C, 4, none⟩ u) L C c0 c1 c2 c3 c4 x0 x1 v xs vs ls u rs' := by
  have hLC := h.LC
  have hCk := h.cs.lt
  have hms := hm.size
  refine ⟨?_, h.cs.put4 hm hg hr hat, h.fr.trans (put4_fr h.cs.r4 (by omega) (by omega) hm hg), h.LC, h.vC, h.ds, ?_⟩
  · refine h.st.frame fun k hlt ho => ?_
    have hkC : ¬ k = C := by
      rintro rfl
      rcases ho with ho | ho
      · omega
      · exact h.vC ho
    have hkr : ¬ vr.ownBlock = some k := by
      intro e
      rcases ho with ho | ho
      · have := (h.cs.r4.lt k e).1; omega
      · exact h.dr k e ho
    exact (Below.heap_setCell _ _ _ _ hkC).trans ((grown_block hg (Nat.lt_of_lt_of_le hlt hms) hkr).trans (hm.block k hlt))
  · intro g hg' e
    rcases hat with hat | hat
    · rw [hat] at hg'; exact h.dr g hg' e
    · rw [hat] at hg'; injection hg' with hg'; have := (h.st.row.lt g e).2; omega
theorem BldSt.sadd {ls' : List Int} (h : BldSt w3 wk L C c0 c1 c2 c3 c4 x0 x1 v xs vs ls vr rs) (hm : Below wk.heap.size wk wm) (hg : wm.grownBy w' vs.ownBlock) (hr : IntRow w' (C + 1) u ls') (hat : u.ownBlock = vs.ownBlock ∨ u.ownBlock = some wm.heap.size) :
    BldSt w3 (w'.setCell ⟨C, 2, none⟩ u) L C c0 c1 c2 c3 c4 x0 x1 v xs u ls' vr rs := by
  have hLC := h.LC
  have hCk := h.cs.lt
  have hms := hm.size
  refine ⟨?_, h.cs.put2 hm hg hr hat, h.fr.trans (put2_fr h.cs.r2 (by omega) (by omega) hm hg), h.LC, h.vC, ?_, h.dr⟩
  · refine h.st.frame fun k hlt ho => ?_
    have hkC : ¬ k = C := by
      rintro rfl
      rcases ho with ho | ho
      · omega
      · exact h.vC ho
    have hkr : ¬ vs.ownBlock = some k := by
      intro e
      rcases ho with ho | ho
      · have := (h.cs.r2.lt k e).1; omega
      · exact h.ds k e ho
    exact (Below.heap_setCell _ _ _ _ hkC).trans ((grown_block hg (Nat.lt_of_lt_of_le hlt hms) hkr).trans (hm.block k hlt))
  · intro g hg' e
    rcases hat with hat | hat
    · rw [hat] at hg'; exact h.ds g hg' e
    · rw [hat] at hg'; injection hg' with hg'; have := (h.st.row.lt g e).2; omega
theorem BldSt.eq (h : BldSt w3 wk L C c0 c1 c2 c3 c4 x0 x1 v xs vs ls vr rs) {xs' : List Ins} {ls' : List Int} {rs' : List Row} (e1 : xs = xs') (e2 : ls = ls') (e3 : rs = rs') : BldSt w3 wk L C c0 c1 c2 c3 c4 x0 x1 v xs' vs ls' vr rs' := e1 ▸ e2 ▸ e3 ▸ h
theorem BldSt.cell {b o : Nat} {u : Value} (h : BldSt w3 wk L C c0 c1 c2 c3 c4 x0 x1 v xs vs ls vr rs) (hb : b < L) (hc : w3.cell? ⟨b, o, none⟩ = some u) : wk.cell? ⟨b, o, none⟩ = some u := (h.fr.cell (p := ⟨b, o, none⟩) hb).trans hc
end
set_option maxHeartbeats 8000000 in
theorem implLowerFunc (w : World) (lo hi : Nat) (x0 x1 : Int) (Ab : Option Addr) (nb cb : Nat) (body : List Int) (A : Option Addr) (n c : Nat) (ss : List Stmt) (hb : Sl intR w lo hi Ab nb cb body) (h : Sl StmtR w lo hi A n c ss) (hh : hi ≤ w.heap.size) (hf : LowF (x0, x1, body, ss)) (i0 : I64 x0) (i1 : I64 x1) :
    Calls Try.prog 138 #[.agg #[.int .i64 x0, .int .i64 x1, .slice Ab nb cb, .slice A n c]] w (RetCodeB (lowF (x0, x1, body, ss)) true w) := by
  replace h := h.more (Nat.zero_le lo) hh
  replace hb := hb.more (Nat.zero_le lo) hh
  have e1 := h.lenEq
  have HF := Lib.hid hf
  have hlong := hf.long
  simp only at hlong
  have hcl := codeB_long hf
  simp only at hcl
  clear hf
  have HE1 := Lib.hid e1
  have hn : n ≤ 16 := by omega
  clear e1
  go_enter Try.func138, Try.ntmps138
  go_wp2_with fail
  obtain ⟨w1, hw1⟩ : ∃ w1, w1 = (w.alloc (.cells #[.int .i64 x0, .int .i64 x1, .slice Ab nb cb, .slice A n c] 173)).alloc (.cells #[.int .i64 0, .int .i64 0, .slice none 0 0, .slice none 0 0, .slice none 0 0] 44) := ⟨_, rfl⟩
  have xf0 : w1.cell? ⟨w.heap.size, 0, none⟩ = some (.int .i64 x0) := by rw [hw1]; simp [go_sem]
  have xf1 : w1.cell? ⟨w.heap.size, 1, none⟩ = some (.int .i64 x1) := by rw [hw1]; simp [go_sem]
  have xf2 : w1.cell? ⟨w.heap.size, 2, none⟩ = some (.slice Ab nb cb) := by rw [hw1]; simp [go_sem]
  have xf3 : w1.cell? ⟨w.heap.size, 3, none⟩ = some (.slice A n c) := by rw [hw1]; simp [go_sem]
  have xr0 : w1.cell? ⟨w.heap.size + 1, 0, none⟩ = some (.int .i64 0) := by rw [hw1]; simp [go_sem]
  have xr1 : w1.cell? ⟨w.heap.size + 1, 1, none⟩ = some (.int .i64 0) := by rw [hw1]; simp [go_sem]
  have xr2 : w1.cell? ⟨w.heap.size + 1, 2, none⟩ = some (.slice none 0 0) := by rw [hw1]; simp [go_sem]
  have xr3 : w1.cell? ⟨w.heap.size + 1, 3, none⟩ = some (.slice none 0 0) := by rw [hw1]; simp [go_sem]
  have xr4 : w1.cell? ⟨w.heap.size + 1, 4, none⟩ = some (.slice none 0 0) := by rw [hw1]; simp [go_sem]
  have xrf : ∀ j, w1.frozen? ⟨w.heap.size + 1, j, none⟩ = false := fun j => by rw [hw1]; simp [go_sem]
  have hb1 : Below w.heap.size w w1 := by rw [hw1]; (repeat (first | with_reducible exact Below.refl _ _ | with_reducible assumption | with_reducible refine below_alloc ?_ _ | ((with_reducible refine Below.setCell ?_ ?_ _); rotate_left; (· first | exact Nat.le_refl _ | (simp; done) | (simp; omega))) | with_reducible refine below_drewN ?_ _ | with_reducible refine Below.drew ?_ | with_reducible refine below_then ?_ (by with_reducible assumption)))
  have hB : w.heap.size + 1 < w1.heap.size := World.block_lt_of_cell? w1 _ xr0
  have h1 := h.below hb1 (Nat.le_refl _)
  have hbd1 := hb.below hb1 (Nat.le_refl _)
  rw [← hw1]
  clear hw1
  go_region_held3 (fun W => W.cell? ⟨w.heap.size, 0, none⟩ = some (.int .i64 x0) ∧ W.cell? ⟨w.heap.size, 1, none⟩ = some (.int .i64 x1) ∧ W.cell? ⟨w.heap.size, 2, none⟩ = some (.slice Ab nb cb) ∧ W.cell? ⟨w.heap.size, 3, none⟩ = some (.slice A n c))
    (first | exact ⟨xf0, xf1, xf2, xf3⟩ | exact ⟨below_cell hq xf0, below_cell hq xf1, below_cell hq xf2, below_cell hq xf3⟩ | exact ⟨below_cell (hq.alloc hqs _) xf0, below_cell (hq.alloc hqs _) xf1, below_cell (hq.alloc hqs _) xf2, below_cell (hq.alloc hqs _) xf3⟩)
    (first | (go_at_call 209; ((with_reducible refine (implSitesOf _ 0 w.heap.size x0 x1 _ A n c ss (h1.below (show Below w1.heap.size w1 _ by (repeat (first | with_reducible exact Below.refl _ _ | with_reducible assumption | with_reducible refine below_alloc ?_ _ | ((with_reducible refine Below.setCell ?_ ?_ _); rotate_left; (· first | exact Nat.le_refl _ | (simp; done) | (simp; omega))) | with_reducible refine below_drewN ?_ _ | with_reducible refine Below.drew ?_ | with_reducible refine below_then ?_ (by with_reducible assumption)))) (by omega)) (by first | omega | (simp; omega)) (by omega)).mono ?_); rintro e w2 ⟨F2, As, ns, cs, rfl, os, fs, hx⟩; have hq : Below w1.heap.size w1 w2 := (by (repeat (first | with_reducible exact Below.refl _ _ | with_reducible assumption | with_reducible refine below_alloc ?_ _ | ((with_reducible refine Below.setCell ?_ ?_ _); rotate_left; (· first | exact Nat.le_refl _ | (simp; done) | (simp; omega))) | with_reducible refine below_drewN ?_ _ | with_reducible refine Below.drew ?_ | with_reducible refine below_then ?_ (by with_reducible assumption)))); have hqs := hq.size)) | fail)
  obtain ⟨w3, hw3⟩ : ∃ w3, w3 = w2.alloc (.cells #[.int .i64 x0, .int .i64 x1, .slice Ab nb cb, .slice A n c, .slice As ns cs, .slice none 0 0] 243) := ⟨_, rfl⟩
  have hst3 : LowSt w3 w2.heap.size (.int .i64 x0) (.int .i64 x1) (.slice Ab nb cb) (.slice A n c) (.slice As ns cs) (.slice none 0 0) [] := by
    rw [hw3]; exact ⟨by simp [go_sem], by simp [go_sem], by simp [go_sem], by simp [go_sem], by simp [go_sem], by simp [go_sem], fun j => by simp [go_sem], InsRow.nil_ _ _⟩
  have hb13 : Below w1.heap.size w1 w3 := by rw [hw3]; exact hq.alloc hqs _
  have hb23 : Below w2.heap.size w2 w3 := by rw [hw3]; exact Below.alloc (Below.refl _ _) (Nat.le_refl _) _
  have h3 : Sl StmtR w3 0 w2.heap.size A n c ss := (h1.below hb13 (by omega)).more (Nat.le_refl 0) (by omega)
  have hbd3 : Sl intR w3 0 w2.heap.size Ab nb cb body := (hbd1.below hb13 (by omega)).more (Nat.le_refl 0) (by omega)
  have hs3 : Sl intR w3 0 w2.heap.size As ns cs (sitesF ss) := os.sl.below hb23 (Nat.le_refl _)
  have hw03 := hb1.trans (hb13.mono (show w.heap.size ≤ w1.heap.size by omega))
  replace xf0 := below_cell hb13 xf0
  replace xf1 := below_cell hb13 xf1
  replace xf2 := below_cell hb13 xf2
  replace xf3 := below_cell hb13 xf3
  replace xr0 := below_cell hb13 xr0
  replace xr1 := below_cell hb13 xr1
  replace xr2 := below_cell hb13 xr2
  replace xr3 := below_cell hb13 xr3
  replace xr4 := below_cell hb13 xr4
  have hRf : ∀ j, w3.frozen? ⟨w.heap.size + 1, j, none⟩ = false := fun j => (hb13.frozen (p := ⟨w.heap.size + 1, j, none⟩) hB).trans (xrf j)
  rw [← hw3]
  clear hw3 hb1 hb13 hb23 h1 hbd1 os fs hx hq xrf h hb
  have hsl : ns ≤ 4 := by have := HF.out.sites; have := hs3.lenEq; simp only at *; omega
  have HSE := Lib.hid hs3.lenEq
  obtain ⟨L, hL0⟩ : ∃ L, L = w2.heap.size := ⟨_, rfl⟩
  have hwL : w.heap.size + 1 < L := by omega
  rw [← hL0] at hst3 h3 hbd3 hs3 ⊢
  clear hL0 hqs hB
  have hL3 := hst3.lt
  go_wp2_with fail
  refine (implBlockC ss.length w3 L _ _ _ A n c ss As ns cs Ab nb cb body _ [] 0 0 h3 hs3 hbd3 hst3 HF.out.all HF.out.ok HF.out.body (by omega) (by omega) rfl (by omega)).mono ?_
  rintro e w4 hr
  obtain ⟨v4, rfl, hR4⟩ := (LowRun.start hst3).step hr
  clear hr hst3
  have hcok := Lib.hid (codeB_ok (ss := ss) HF.out.ok (by omega) (ss.length + 1) 0 body (by omega))
  obtain ⟨cbs, hcbs⟩ : ∃ x, x = codeB ss (ss.length + 1) 0 body := ⟨_, rfl⟩
  rw [← hcbs] at hcl hR4 hcok
  rw [List.nil_append] at hR4
  have HCB := Lib.hid hcbs
  clear hcbs
  go_wp2_with fail
  refine (implAddAt _ L _ _ _ _ _ v4 cbs 16 0 cbs.length hR4.st rfl (by omega)).mono ?_
  rintro e w5 hr
  obtain ⟨v5, rfl, hR5⟩ := hR4.step hr
  clear hr hR4
  obtain ⟨bs, hbs⟩ : ∃ x, x = cbs ++ [((16 : Int), (0 : Int))] := ⟨_, rfl⟩
  rw [← hbs] at hR5
  have hPl : bs.length = cbs.length + 1 := by rw [hbs]; simp
  obtain ⟨P, hP⟩ : ∃ P, bs.length = P := ⟨_, rfl⟩
  have hP1 : P ≤ 241 := by omega
  have HBS := Lib.hid hbs
  have HP := Lib.hid hP
  obtain ⟨A5, n5, c5, rfl, hn5⟩ := hR5.st.row.form
  obtain rfl : P = n5 := by omega
  clear hbs hPl hP hn5
  have p5 := hR5.st.p5
  have p4 := hR5.st.p4
  have hL5 := hR5.st.lt
  have f0 := hR5.cell (B := w.heap.size) (by omega) (by simp [Value.ownBlock]) xf0
  have f1 := hR5.cell (B := w.heap.size) (by omega) (by simp [Value.ownBlock]) xf1
  have hB5 : Below L w3 (w5.alloc (.cells #[.int .i64 x0, .int .i64 x1, .slice none 0 0, .slice none 0 0, .slice none 0 0] 44)) :=
    Below.alloc ⟨hR5.fr.os, hR5.fr.tape, hR5.fr.output, hR5.fr.size, fun k hk => hR5.fr.block k (by omega) (by simp only [List.mem_cons, not_or]; exact ⟨by omega, by simp [Value.ownBlock]⟩)⟩ (by omega) _
  have hbld0 : BldSt w3 (w5.alloc (.cells #[.int .i64 x0, .int .i64 x1, .slice none 0 0, .slice none 0 0, .slice none 0 0] 44)) L w5.heap.size (.int .i64 x0) (.int .i64 x1) (.slice Ab nb cb) (.slice A n c) (.slice As ns cs) x0 x1 (.slice A5 P c5) bs (.slice none 0 0) [] (.slice none 0 0) [] :=
    ⟨hR5.st.keep (Below.alloc (Below.refl _ _) (Nat.le_refl _) _), CSt.new w5 rfl x0 x1, hB5, hL5, (fun e => by have := (hR5.st.row.lt _ e).2; omega), (fun g hg => by cases hg), (fun g hg => by cases hg)⟩
  go_wp2_with (at_builtin; refine wpl_rapp1 _ rfl _ _ rfl (w5.heap.size + 1) (.slice none 0 0) [] rfl (RowRow.nil_ _ _) ⟨w5.heap.size + 1, 0, none⟩ 1 0 P P rfl (cell_new3 _ _ _ _ _ (by simp)) (by simp) (by first | (simp; done) | (simp; omega)) ?_)
  intro u w6 hown hgr hat
  obtain ⟨A6, n6, c6, rfl, hn6⟩ := hown.form
  clear hn6
  replace hown := hown.eq (l' := [((0 : Int), (P : Int), (P : Int))]) (by first | rfl | (simp; done))
  have hmid := hbld0.cs.mid4 (Below.alloc (Below.refl _ _) (Nat.le_refl _) _) hgr
  obtain ⟨_, _, _, _, m4, mf⟩ := hmid
  have mf4 := mf 4
  have q4 : w6.cell? ⟨L, 4, none⟩ = some (.slice As ns cs) := cell_same (hgr.block L (by simp; omega) (by simp [Value.ownBlock])) ((Below.alloc (Below.alloc (Below.refl _ _) (Nat.le_refl _) _) (by simp) _ : Below w5.heap.size w5 _).cell (p := ⟨L, 4, none⟩) hL5 |>.trans p4)
  have hbld := hbld0.radd (Below.alloc (Below.refl _ _) (Nat.le_refl _) _) hgr hown (hat.imp id (fun e => by simpa using e))
  clear hbld0 hown hgr hat f0 f1 p5 p4 hR5 hB5
  go_wp2_with fail
  obtain ⟨w7, hw7⟩ : ∃ w7, w7 = w6.setCell ⟨w5.heap.size, 4, none⟩ (.slice A6 n6 c6) := ⟨_, rfl⟩
  rw [← hw7] at hbld ⊢
  clear hw7 m4 mf mf4 q4
  obtain ⟨C, hC0⟩ : ∃ C, C = w5.heap.size := ⟨_, rfl⟩
  rw [← hC0] at hbld ⊢
  clear hC0 hL5
  have hLC := hbld.LC
  go_loopw [7] (fun i wr => ∃ k : Nat, k ≤ ns ∧ i = .int .i64 ((ns : Int) - 1 - (k : Int)) ∧ ∃ v vr, BldSt w3 wr L C (.int .i64 x0) (.int .i64 x1) (.slice Ab nb cb) (.slice A n c) (.slice As ns cs) x0 x1 v (bs ++ padK ns k) (.slice none 0 0) [] vr ((0, (P : Int), (P : Int)) :: padRK P k)) (fun i _ => (intOf i + 1).toNat)
  case atStart => exact ⟨0, Nat.zero_le _, by first | go_num | (simp; done) | exact int_eq (by omega), _, _, hbld.eq (by simp [padK]) rfl (by simp [padRK])⟩
  case round =>
    obtain ⟨k, hk, rfl, v, vr, hB⟩ := hrel
    by_cases hlt : k < ns
    · obtain ⟨xs, hxs⟩ : ∃ x, x = bs ++ padK ns k := ⟨_, rfl⟩
      obtain ⟨rs, hrs⟩ : ∃ x, x = (0, (P : Int), (P : Int)) :: padRK P k := ⟨_, rfl⟩
      rw [← hxs, ← hrs] at hB
      have hxl : xs.length = P + k := by rw [hxs, List.length_append, padK_len, HP.out]
      have hrl : rs.length ≤ 10 := by rw [hrs, List.length_cons, padRK_len]; omega
      obtain ⟨a, ha⟩ : ∃ a, P + k = a := ⟨_, rfl⟩
      have ha3 : a ≤ 300 := by omega
      have HXL := Lib.hid (hxl.trans ha)
      have HXS := Lib.hid hxs
      have HRS := Lib.hid hrs
      have HA := Lib.hid ha
      have hge : (0 : Int) ≤ (ns : Int) - 1 - (k : Int) := by omega
      clear hxl hxs hrs ha
      go_wp2_with fail
      refine (implAddAt _ L _ _ _ _ _ v xs 17 _ a hB.st HXL.out (by omega)).mono ?_
      rintro e w8 hr
      obtain ⟨v8, rfl, hB8⟩ := hB.add hr
      clear hr hB
      have kk4 := hB8.cs.k4
      have hm8 : ∀ o, Below w8.heap.size w8 (w8.alloc o) := fun o => Below.alloc (Below.refl _ _) (Nat.le_refl _) o
      have hC8 := hB8.cs.lt
      go_wp2_with (at_builtin; refine wpl_rapp1 _ rfl _ _ rfl (C + 1) vr rs rfl (hB8.cs.r4.below (hm8 _)) ⟨w8.heap.size, 0, none⟩ 1 _ _ _ rfl (cell_new3 _ _ _ _ _ (by simp)) (by omega) (by first | (simp; done) | (simp; omega)) ?_)
      intro u w9 hown hgr hat
      obtain ⟨A9, n9, c9, rfl, hn9⟩ := hown.form
      clear hn9
      replace hown := hown.eq (l' := (0, (P : Int), (P : Int)) :: padRK P (k + 1)) (by rw [padRK_succ, HRS.out]; simp [← HA.out])
      obtain ⟨_, _, _, _, m4, mf⟩ := hB8.cs.mid4 (hm8 _) hgr
      have mf4 := mf 4
      have hB9 := (hB8.radd (hm8 _) hgr hown (hat.imp id (fun e => by simpa using e))).eq (xs' := bs ++ padK ns (k + 1)) (by rw [padK_succ, HXS.out, List.append_assoc, show ((ns - 1 - k : Nat) : Int) = (ns : Int) - 1 - (k : Int) by omega]) rfl rfl
      clear hown hgr hat hB8 mf kk4
      go_wp2_with fail
      go_roundw
      case rel => exact ⟨k + 1, by omega, by first | go_num | exact int_eq (by omega), _, _, hB9⟩
      case measure => simp [intOf]; omega
    · obtain rfl : ns = k := by omega
      obtain ⟨xs, hxs⟩ : ∃ x, x = bs ++ padK ns ns := ⟨_, rfl⟩
      obtain ⟨rs, hrs⟩ : ∃ x, x = (0, (P : Int), (P : Int)) :: padRK P ns := ⟨_, rfl⟩
      rw [← hxs, ← hrs] at hB
      have hxl : xs.length = P + ns := by rw [hxs, List.length_append, padK_len, HP.out]
      obtain ⟨a, ha⟩ : ∃ a, P + ns = a := ⟨_, rfl⟩
      have ha3 : a ≤ 250 := by omega
      have HXL := Lib.hid (hxl.trans ha)
      have HXS := Lib.hid hxs
      have HRS := Lib.hid hrs
      have hge : ¬ (0 : Int) ≤ (ns : Int) - 1 - (ns : Int) := by omega
      clear hxl hxs hrs ha
      go_wp2_with fail
      refine (implAddAt _ L _ _ _ _ _ v xs 18 0 a hB.st HXL.out (by omega)).mono ?_
      rintro e w8 hr
      obtain ⟨v8, rfl, hB8⟩ := hB.add hr
      clear hr hB
      have q4 := hB8.st.p4
      go_wp2_with fail
      go_loopw [71] (fun i wr => ∃ q : Nat, q ≤ ns ∧ i = .int .i64 q ∧ ∃ vs, BldSt w3 wr L C (.int .i64 x0) (.int .i64 x1) (.slice Ab nb cb) (.slice A n c) (.slice As ns cs) x0 x1 v8 (xs ++ [(18, 0)]) vs (((sitesF ss).take q).map (nOf ss)) vr rs) (fun i _ => ns - (intOf i).toNat)
      case atStart => exact ⟨0, Nat.zero_le _, rfl, _, hB8⟩
      case round =>
        obtain ⟨q, hq, rfl, vs, hB⟩ := hrel
        by_cases hlt2 : q < ns
        · obtain ⟨b, o, rfl, _, _, hc1, _⟩ := (hs3.below hB.fr (Nat.le_refl _)).int_at hlt2
          have hlen := HSE.out
          have hx := sitesF_mem ss _ (List.getElem_mem (by omega : q < (sitesF ss).length))
          have hs0 := fun y => take_map_succ (f := nOf ss) (y := y) (l := sitesF ss) (k := q) (by omega)
          generalize (sitesF ss)[q]'(by omega) = x at hc1 hx hs0
          obtain ⟨hx1, hx2⟩ := hx
          obtain ⟨j, rfl⟩ := Int.eq_ofNat_of_zero_le hx1
          have hj : j < n := by have := HE1.out; omega
          have HS := Lib.hid (hs0 _ rfl)
          clear hs0 hlen
          obtain ⟨ls, hls⟩ : ∃ x, x = ((sitesF ss).take q).map (nOf ss) := ⟨_, rfl⟩
          have hlsl : ls.length ≤ 4 := by rw [hls, List.length_map, List.length_take]; omega
          rw [← hls] at hB HS
          clear hls
          obtain ⟨b2, o2, y0, y1, B2, m2, d2, ex, B3, m3, d3, s3, B4, m4, d4, s4, rfl, _, _, hl0, j0, j1, _, _, _, t0, t1, t2, t3, t4⟩ := Stmt_at (h3.below hB.fr (Nat.le_refl _)) hj
          have hN : nOf ss (j : Int) = y1 := by
            have := (exOf_at (ss := ss) (k := j) (by omega)).2.2.1
            rw [hl0] at this; exact this
          rw [hN] at HS
          have kk2 := hB.cs.k2
          have kf2 := hB.cs.kf 2
          have hC8 := hB.cs.lt
          have zf3 := hB.cell (by omega) xf3
          have zlt : w.heap.size < wr.heap.size := World.block_lt_of_cell? wr _ zf3
          have zlt2 : b2 < wr.heap.size := World.block_lt_of_cell? wr _ t1
          have gA : (0 : Int) ≤ (j : Int) := by omega
          have gB : (j : Int) < (n : Int) := by omega
          clear hl0 hN t0 t2 t3 t4
          go_wp2_with fail
          go_region_law (first | ((refine step_iapp1 _ (by rfl) _ _ (by rfl) (C + 1) vs ls (by rfl) (hB.cs.r2.below (show Below wr.heap.size wr _ by (repeat (first | with_reducible exact Below.refl _ _ | with_reducible assumption | with_reducible refine below_alloc ?_ _ | ((with_reducible refine Below.setCell ?_ ?_ _); rotate_left; (· first | exact Nat.le_refl _ | (simp; done) | (simp; omega))) | with_reducible refine below_drewN ?_ _ | with_reducible refine Below.drew ?_ | with_reducible refine below_then ?_ (by with_reducible assumption))))) wr.heap.size 1 y1 (by rfl) (by simp [go_sem]) (by omega) (by first | (simp; done) | (simp; omega)) ?_); intro u w9 hown hgr hat; obtain ⟨A9, n9, c9, rfl, hn9⟩ := hown.form; clear hn9; have mm := hB.cs.mid2 (show Below wr.heap.size wr _ by (repeat (first | with_reducible exact Below.refl _ _ | with_reducible assumption | with_reducible refine below_alloc ?_ _ | ((with_reducible refine Below.setCell ?_ ?_ _); rotate_left; (· first | exact Nat.le_refl _ | (simp; done) | (simp; omega))) | with_reducible refine below_drewN ?_ _ | with_reducible refine Below.drew ?_ | with_reducible refine below_then ?_ (by with_reducible assumption)))) hgr; have mm2 := mm.2.2.1; have mf2 := mm.2.2.2.2.2 2) | fail)
          all_goals
            have hB9 := (hB.sadd (show Below wr.heap.size wr _ by (repeat (first | with_reducible exact Below.refl _ _ | with_reducible assumption | with_reducible refine below_alloc ?_ _ | ((with_reducible refine Below.setCell ?_ ?_ _); rotate_left; (· first | exact Nat.le_refl _ | (simp; done) | (simp; omega))) | with_reducible refine below_drewN ?_ _ | with_reducible refine Below.drew ?_ | with_reducible refine below_then ?_ (by with_reducible assumption)))) hgr hown hat).eq rfl HS.out.symm rfl
            clear hown hgr hat hB mm mm2 mf2
            go_wp2_with fail
            go_roundw
            case rel => exact ⟨q + 1, by omega, by go_num, _, hB9⟩
            case measure => simp [intOf]; omega
        · rw [List.take_of_length_le (by have := HSE.out; omega)] at hB
          obtain ⟨Av, nv, cv, rfl, hnv⟩ := hB.st.row.form
          have hnv2 : nv ≤ 251 := by rw [hnv, List.length_append, HXL.out, List.length_singleton]; omega
          have hnv3 : ¬ (300 : Int) < (nv : Int) := by omega
          clear hnv
          obtain ⟨As', ns', cs', rfl, hns⟩ := hB.cs.r2.form
          obtain ⟨Ar, nr, cr, rfl, hnr⟩ := hB.cs.r4.form
          clear hns hnr
          have p5 := hB.st.p5
          have kk0 := hB.cs.k0
          have kk1 := hB.cs.k1
          have kk2 := hB.cs.k2
          have kk3 := hB.cs.k3
          have kk4 := hB.cs.k4
          have kf := hB.cs.kf 3
          have y0 := hB.cell (by omega) xr0
          have y1 := hB.cell (by omega) xr1
          have y2 := hB.cell (by omega) xr2
          have y3 := hB.cell (by omega) xr3
          have y4 := hB.cell (by omega) xr4
          have yf : ∀ j, wr.frozen? ⟨w.heap.size + 1, j, none⟩ = false := fun j => (hB.fr.frozen (p := ⟨w.heap.size + 1, j, none⟩) hwL).trans (hRf j)
          have hRC : ¬ w.heap.size + 1 = C := by omega
          have hRL : ¬ w.heap.size + 1 = L := by omega
          have hCL : ¬ C = L := by omega
          go_wp2_with fail
          refine bodyPost_ret (v := .tuple #[.agg #[.int .i64 x0, .int .i64 x1, .slice As' ns' cs', .slice Av nv cv, .slice Ar nr cr], .bool true]) (by simp [results, Try.results138, go_sem, y0, y1, y2, y3, y4, hRC]) rfl ?_
          have hlow : lowF (x0, x1, body, ss) = (x0, x1, (sitesF ss).map (nOf ss), xs ++ [(18, 0)], rs) := by
            unfold lowF
            dsimp only
            rw [← HCB.out, ← HBS.out, HP.out, HSE.out, padK_all, padRK_all, HXS.out, HRS.out, List.append_assoc]
          rw [hlow]
          have hk : ∀ k, ¬ k = C → ¬ k = w.heap.size + 1 → ((((((wr.setCell ⟨C, 3, none⟩ (.slice Av nv cv)).setCell ⟨w.heap.size + 1, 0, none⟩ (.int .i64 x0)).setCell ⟨w.heap.size + 1, 1, none⟩ (.int .i64 x1)).setCell ⟨w.heap.size + 1, 2, none⟩ (.slice As' ns' cs')).setCell ⟨w.heap.size + 1, 3, none⟩ (.slice Av nv cv)).setCell ⟨w.heap.size + 1, 4, none⟩ (.slice Ar nr cr)).heap[k]? = wr.heap[k]? := by
            intro k g1 g2
            rw [Below.heap_setCell _ _ _ _ g2, Below.heap_setCell _ _ _ _ g2, Below.heap_setCell _ _ _ _ g2, Below.heap_setCell _ _ _ _ g2, Below.heap_setCell _ _ _ _ g2, Below.heap_setCell _ _ _ _ g1]
          have hbw : Below w.heap.size w wr := hw03.trans (hB.fr.mono (by omega))
          refine RetCodeB.mk (b2 := C + 1) (b3 := L + 1) (b4 := C + 1) (hB.cs.r2.keep fun k e => hk k (by have := (hB.cs.r2.lt k e).1; omega) (by have := (hB.cs.r2.lt k e).1; omega)) (hB.st.row.keep fun k e => hk k (by rintro rfl; exact hB.vC e) (by have := (hB.st.row.lt k e).1; omega)) (hB.cs.r4.keep fun k e => hk k (by have := (hB.cs.r4.lt k e).1; omega) (by have := (hB.cs.r4.lt k e).1; omega)) ?_ ?_ ?_ (by omega) (by omega) (by omega) hB.ds hB.cs.d24 (fun g e e2 => hB.dr g e2 e) ?_
          · intro x hx
            obtain ⟨z, _, rfl⟩ := List.mem_map.1 hx
            have := nOf_ok (ss := ss) HF.out.ok z
            unfold I64; omega
          · intro x hx
            rw [HXS.out, HBS.out] at hx
            simp only [List.mem_append, List.mem_singleton] at hx
            rcases hx with ((hx | rfl) | hx) | rfl
            · exact hcok.out x hx
            · exact ⟨by unfold I64; simp, by unfold I64; simp⟩
            · exact padK_ok (by omega) x hx
            · exact ⟨by unfold I64; simp, by unfold I64; simp⟩
          · intro x hx
            rw [HRS.out] at hx
            rcases List.mem_cons.1 hx with rfl | hx
            · refine ⟨?_, ?_, ?_⟩ <;> (simp only [I64]; omega)
            · exact padRK_ok (by omega) x hx
          · (repeat (first | with_reducible exact Below.refl _ _ | with_reducible assumption | with_reducible refine below_alloc ?_ _ | ((with_reducible refine Below.setCell ?_ ?_ _); rotate_left; (· first | exact Nat.le_refl _ | (simp; done) | (simp; omega))) | with_reducible refine below_drewN ?_ _ | with_reducible refine Below.drew ?_ | with_reducible refine below_then ?_ (by with_reducible assumption)))
end Go.Proofs.Ytkedpaopnnhinaa

/- A function's code: the reference's walk. -/
set_option linter.unusedVariables false
set_option linter.unusedSimpArgs false
set_option maxRecDepth 100000
namespace Go.Proofs.Ytkedpaopnnhinaa
open Go.RowKit
theorem grown_below {w wm w' : World} {B base size n : Nat} {e : TypeId} {v : Value} {xs : List Value} (hm : Below B w wm) (ho : wm.ownsRow base e size v n xs) (hg : wm.grownBy w' v.ownBlock) (hB : B ≤ base) (hBm : B ≤ wm.heap.size) : Below B w w' := hm.grown hg hBm (fun g e => by have := (ho.lt g e).1; omega)
theorem put_frC {a wr wm w' : World} {C j : Nat} {v u : Value} (hf : Fr [C] a wr) (hm : Below wr.heap.size wr wm) (hg : wm.grownBy w' v.ownBlock) (hv : ∀ g, v.ownBlock = some g → a.heap.size ≤ g) : Fr [C] a (w'.setCell ⟨C, j, none⟩ u) :=
  ⟨(show (w'.setCell ⟨C, j, none⟩ u).os = w'.os from rfl).trans (hg.os.trans (hm.os.trans hf.os)), (show (w'.setCell ⟨C, j, none⟩ u).tape = w'.tape from rfl).trans (hg.tape.trans (hm.tape.trans hf.tape)), (show (w'.setCell ⟨C, j, none⟩ u).output = w'.output from rfl).trans (hg.output.trans (hm.output.trans hf.output)),
    by have h1 := hg.size; have h2 := hm.size; have h3 := hf.size; simp; omega, fun k hk hn => by
    have hf3 := hf.size
    have hm3 := hm.size
    rw [Below.heap_setCell _ _ _ _ (show k ≠ C by simpa using hn), hg.block k (by omega) (fun e => by have := hv k e.symm; omega), hm.block k (by omega), hf.block k hk hn]⟩
set_option maxHeartbeats 8000000 in
theorem specL6Func (w : World) (lo hi : Nat) (Ap : Option Addr) (np cp : Nat) (fs : List Func) (jf : Nat) (h : Sl FuncR w lo hi Ap np cp fs) (hh : hi ≤ w.heap.size) (hjf : jf < np) (hf0 : LowF (fs[jf]'(by have := h.lenEq; omega))) :
    Calls Try.prog 135 #[.agg #[.slice Ap np cp], .int .i64 jf] w (RetCodeS (lowF (fs[jf]'(by have := h.lenEq; omega))) w) := by
  replace h := h.more (Nat.zero_le lo) hh
  obtain ⟨bp, op, x0, x1, Ab, nb, cb, body, A, n, c, ss, rfl, _, _, hl0, i0, i1, hb, hs, d0, d1, d2, d3⟩ := Func_at h hjf
  rw [hl0] at hf0 ⊢
  have e1 := hs.lenEq
  have HF := Lib.hid hf0
  have hlong := hf0.long
  simp only at hlong
  have hcl := codeB_long hf0
  simp only at hcl
  have HE1 := Lib.hid e1
  have hn : n ≤ 16 := by omega
  have gA : (0 : Int) ≤ (jf : Int) := by omega
  have gB : (jf : Int) < (np : Int) := by omega
  clear e1 hf0 hl0 h
  go_enter Try.func135, Try.ntmps135
  go_wp2_with fail
  obtain ⟨C, hC⟩ : ∃ C, C = w.heap.size + 1 + 1 + 1 := ⟨_, rfl⟩
  obtain ⟨Fb, hFb⟩ : ∃ Fb, Fb = w.heap.size + 1 + 1 := ⟨_, rfl⟩
  obtain ⟨R, hR⟩ : ∃ R, R = w.heap.size + 1 := ⟨_, rfl⟩
  obtain ⟨w0, hw0⟩ : ∃ w0, w0 = ((w.alloc (.cells #[.slice (some ⟨bp, op, none⟩) np cp] 87)).alloc (.cells #[.int .i64 0, .int .i64 0, .slice none 0 0, .slice none 0 0, .slice none 0 0] 44)).alloc (.cells #[.int .i64 x0, .int .i64 x1, .slice Ab nb cb, .slice A n c] 173) := ⟨_, rfl⟩
  have hz0 : w0.heap.size = C := by rw [hw0, hC]; simp
  obtain ⟨w1, hw1⟩ : ∃ w1, w1 = w0.alloc (.cells #[.int .i64 x0, .int .i64 x1, .slice none 0 0, .slice none 0 0, .slice none 0 0] 44) := ⟨_, rfl⟩
  have hcs1 : CSt w1 C x0 x1 (.slice none 0 0) [] (.slice none 0 0) [] (.slice none 0 0) [] := by rw [hw1]; exact CSt.new w0 hz0.symm x0 x1
  have g01 : Below C w0 w1 := by rw [hw1, ← hz0]; exact Below.alloc (Below.refl _ _) (Nat.le_refl _) _
  have xf0 : w0.cell? ⟨Fb, 0, none⟩ = some (.int .i64 x0) := by rw [hw0, hFb]; simp [go_sem]
  have xf1 : w0.cell? ⟨Fb, 1, none⟩ = some (.int .i64 x1) := by rw [hw0, hFb]; simp [go_sem]
  have xf2 : w0.cell? ⟨Fb, 2, none⟩ = some (.slice Ab nb cb) := by rw [hw0, hFb]; simp [go_sem]
  have xf3 : w0.cell? ⟨Fb, 3, none⟩ = some (.slice A n c) := by rw [hw0, hFb]; simp [go_sem]
  have xr0 : w0.cell? ⟨R, 0, none⟩ = some (.int .i64 0) := by rw [hw0, hR]; simp [go_sem]
  have xr1 : w0.cell? ⟨R, 1, none⟩ = some (.int .i64 0) := by rw [hw0, hR]; simp [go_sem]
  have xr2 : w0.cell? ⟨R, 2, none⟩ = some (.slice none 0 0) := by rw [hw0, hR]; simp [go_sem]
  have xr3 : w0.cell? ⟨R, 3, none⟩ = some (.slice none 0 0) := by rw [hw0, hR]; simp [go_sem]
  have xr4 : w0.cell? ⟨R, 4, none⟩ = some (.slice none 0 0) := by rw [hw0, hR]; simp [go_sem]
  have xrf : ∀ j, w0.frozen? ⟨R, j, none⟩ = false := fun j => by rw [hw0, hR]; simp [go_sem]
  have hb0 : Below w.heap.size w w0 := by rw [hw0]; (repeat (first | with_reducible exact Below.refl _ _ | with_reducible assumption | with_reducible refine below_alloc ?_ _ | ((with_reducible refine Below.setCell ?_ ?_ _); rotate_left; (· first | exact Nat.le_refl _ | (simp; done) | (simp; omega))) | with_reducible refine below_drewN ?_ _ | with_reducible refine Below.drew ?_ | with_reducible refine below_then ?_ (by with_reducible assumption)))
  have hFC : Fb < C := by omega
  have hRC : R < C := by omega
  have hwR : w.heap.size < R := by omega
  have hRF : ¬ R = Fb := by omega
  replace xf0 : w1.cell? ⟨Fb, 0, none⟩ = _ := (g01.cell (p := ⟨Fb, 0, none⟩) hFC).trans xf0
  replace xf1 : w1.cell? ⟨Fb, 1, none⟩ = _ := (g01.cell (p := ⟨Fb, 1, none⟩) hFC).trans xf1
  replace xf2 : w1.cell? ⟨Fb, 2, none⟩ = _ := (g01.cell (p := ⟨Fb, 2, none⟩) hFC).trans xf2
  replace xf3 : w1.cell? ⟨Fb, 3, none⟩ = _ := (g01.cell (p := ⟨Fb, 3, none⟩) hFC).trans xf3
  replace xr0 : w1.cell? ⟨R, 0, none⟩ = _ := (g01.cell (p := ⟨R, 0, none⟩) hRC).trans xr0
  replace xr1 : w1.cell? ⟨R, 1, none⟩ = _ := (g01.cell (p := ⟨R, 1, none⟩) hRC).trans xr1
  replace xr2 : w1.cell? ⟨R, 2, none⟩ = _ := (g01.cell (p := ⟨R, 2, none⟩) hRC).trans xr2
  replace xr3 : w1.cell? ⟨R, 3, none⟩ = _ := (g01.cell (p := ⟨R, 3, none⟩) hRC).trans xr3
  replace xr4 : w1.cell? ⟨R, 4, none⟩ = _ := (g01.cell (p := ⟨R, 4, none⟩) hRC).trans xr4
  have hRf : ∀ j, w1.frozen? ⟨R, j, none⟩ = false := fun j => (g01.frozen (p := ⟨R, j, none⟩) hRC).trans (xrf j)
  have hb1 : Below w.heap.size w w1 := hb0.trans (g01.mono (by omega))
  have hC1 := hcs1.lt
  try rw [← hC]
  try rw [← hFb]
  try rw [← hR]
  try rw [← hw0]
  try rw [← hw1]
  clear hw1 hw0 xrf g01 hb0 hz0 hC hFb hR d0 d1 d2 d3
  refine (specL3Sites _ 0 w.heap.size x0 x1 _ A n c ss (hs.below hb1 (by omega)) (by omega) (by omega)).mono ?_
  rintro e w2 ⟨F2, As, ns, cs, rfl, os, fs2, hx⟩
  have hS2 := os.toSl (lo := w1.heap.size) (hi := w2.heap.size) (fun k hk => ⟨fs2 k hk, os.lt k hk⟩)
  have hsl : ns ≤ 4 := by have := HF.out.sites; have := hS2.lenEq; simp only at *; omega
  have HSE := Lib.hid hS2.lenEq
  have hx2 := hx.size
  have hcs2 := hcs1.below hx
  clear os fs2 hcs1
  go_wp2_with fail
  go_loopw [25] (fun i wr => ∃ q : Nat, q ≤ ns ∧ i = .int .i64 q ∧ ∃ vs, CSt wr C x0 x1 vs (((sitesF ss).take q).map (nOf ss)) (.slice none 0 0) [] (.slice none 0 0) [] ∧ Fr [C] w2 wr ∧ ∀ g, vs.ownBlock = some g → w2.heap.size ≤ g) (fun i _ => ns - (intOf i).toNat)
  case atStart => exact ⟨0, Nat.zero_le _, rfl, _, hcs2, Fr.refl _ _, fun g hg => by cases hg⟩
  case round =>
    obtain ⟨q, hq, rfl, vs, hB, hfr, hvs⟩ := hrel
    have hwr := hfr.size
    have zf3 : wr.cell? ⟨Fb, 3, none⟩ = some (.slice A n c) := cell_fr hfr (by simp; omega) (below_cell hx xf3)
    have HK : Hid (∀ k, 0 ≤ k → k < w.heap.size → wr.heap[k]? = w.heap[k]?) := Lib.hid (fun k _ hk => (hfr.block k (by omega) (by simp; omega)).trans ((hx.block k (by omega)).trans (hb1.block k hk)))
    by_cases hlt2 : q < ns
    · obtain ⟨b, o, rfl, _, _, hc1, _⟩ := (hS2.fr hfr (Nat.le_refl _) (fun k hk => by simp at hk; omega)).int_at hlt2
      have hlen := HSE.out
      have hxx := sitesF_mem ss _ (List.getElem_mem (by omega : q < (sitesF ss).length))
      have hs0 := fun y => take_map_succ (f := nOf ss) (y := y) (l := sitesF ss) (k := q) (by omega)
      generalize (sitesF ss)[q]'(by omega) = x at hc1 hxx hs0
      obtain ⟨hx1, hx2'⟩ := hxx
      obtain ⟨j, rfl⟩ := Int.eq_ofNat_of_zero_le hx1
      have hj : j < n := by have := HE1.out; omega
      have HS := Lib.hid (hs0 _ rfl)
      clear hs0 hlen
      obtain ⟨ls, hls⟩ : ∃ x, x = ((sitesF ss).take q).map (nOf ss) := ⟨_, rfl⟩
      have hlsl : ls.length ≤ 4 := by rw [hls, List.length_map, List.length_take]; omega
      rw [← hls] at hB HS
      clear hls
      obtain ⟨b2, o2, y0, y1, B2, m2, d2, ex, B3, m3, d3, s3, B4, m4, d4, s4, rfl, _, _, hl0, j0, j1, _, _, _, t0, t1, t2, t3, t4⟩ := Stmt_at (hs.keep (Nat.le_refl _) (Nat.le_refl _) HK.out) hj
      have hN : nOf ss (j : Int) = y1 := by
        have := (exOf_at (ss := ss) (k := j) (by have := HE1.out; omega)).2.2.1
        rw [hl0] at this; exact this
      rw [hN] at HS
      have kk2 := hB.k2
      have kf2 := hB.kf 2
      have hC8 := hB.lt
      have zlt : Fb < wr.heap.size := World.block_lt_of_cell? wr _ zf3
      have zlt2 : b2 < wr.heap.size := World.block_lt_of_cell? wr _ t1
      have gA : (0 : Int) ≤ (j : Int) := by omega
      have gB : (j : Int) < (n : Int) := by omega
      clear hl0 hN t0 t2 t3 t4
      go_wp2_with fail
      go_region_law (first | ((refine step_iapp1 _ (by rfl) _ _ (by rfl) (C + 1) vs ls (by rfl) (hB.r2.below (show Below wr.heap.size wr _ by (repeat (first | with_reducible exact Below.refl _ _ | with_reducible assumption | with_reducible refine below_alloc ?_ _ | ((with_reducible refine Below.setCell ?_ ?_ _); rotate_left; (· first | exact Nat.le_refl _ | (simp; done) | (simp; omega))) | with_reducible refine below_drewN ?_ _ | with_reducible refine Below.drew ?_ | with_reducible refine below_then ?_ (by with_reducible assumption))))) wr.heap.size 1 y1 (by rfl) (by simp [go_sem]) (by omega) (by first | (simp; done) | (simp; omega)) ?_); intro u w9 hown hgr hat; obtain ⟨A9, n9, c9, rfl, hn9⟩ := hown.form; clear hn9; have mm := hB.mid2 (show Below wr.heap.size wr _ by (repeat (first | with_reducible exact Below.refl _ _ | with_reducible assumption | with_reducible refine below_alloc ?_ _ | ((with_reducible refine Below.setCell ?_ ?_ _); rotate_left; (· first | exact Nat.le_refl _ | (simp; done) | (simp; omega))) | with_reducible refine below_drewN ?_ _ | with_reducible refine Below.drew ?_ | with_reducible refine below_then ?_ (by with_reducible assumption)))) hgr; have mm2 := mm.2.2.1; have mf2 := mm.2.2.2.2.2 2) | fail)
      all_goals
        have hB9 := hB.put2 (show Below wr.heap.size wr _ by (repeat (first | with_reducible exact Below.refl _ _ | with_reducible assumption | with_reducible refine below_alloc ?_ _ | ((with_reducible refine Below.setCell ?_ ?_ _); rotate_left; (· first | exact Nat.le_refl _ | (simp; done) | (simp; omega))) | with_reducible refine below_drewN ?_ _ | with_reducible refine Below.drew ?_ | with_reducible refine below_then ?_ (by with_reducible assumption)))) hgr (hown.eq HS.out.symm) hat
        have hfr9 := put_frC (j := 2) (u := (.slice A9 n9 c9)) hfr (show Below wr.heap.size wr _ by (repeat (first | with_reducible exact Below.refl _ _ | with_reducible assumption | with_reducible refine below_alloc ?_ _ | ((with_reducible refine Below.setCell ?_ ?_ _); rotate_left; (· first | exact Nat.le_refl _ | (simp; done) | (simp; omega))) | with_reducible refine below_drewN ?_ _ | with_reducible refine Below.drew ?_ | with_reducible refine below_then ?_ (by with_reducible assumption)))) hgr hvs
        have hvs9 : ∀ g, (Value.slice A9 n9 c9).ownBlock = some g → w2.heap.size ≤ g := by
          intro g hg
          rcases hat with hat | hat
          · rw [hat] at hg; exact hvs g hg
          · rw [hat] at hg; injection hg with hg; rw [← hg]; first | omega | (simp; omega)
        clear hown hgr hat mm mm2 mf2
        go_wp2_with fail
        go_roundw
        case rel => exact ⟨q + 1, by omega, by go_num, _, hB9, hfr9, hvs9⟩
        case measure => simp [intOf]; omega
    · rw [List.take_of_length_le (by have := HSE.out; omega)] at hB
      have zf0 : wr.cell? ⟨Fb, 0, none⟩ = some (.int .i64 x0) := cell_fr hfr (by simp; omega) (below_cell hx xf0)
      have zf1 : wr.cell? ⟨Fb, 1, none⟩ = some (.int .i64 x1) := cell_fr hfr (by simp; omega) (below_cell hx xf1)
      have zf2 : wr.cell? ⟨Fb, 2, none⟩ = some (.slice Ab nb cb) := cell_fr hfr (by simp; omega) (below_cell hx xf2)
      go_wp2_with fail
      obtain ⟨As', ns', cs', rfl, hns⟩ := hB.r2.form
      obtain rfl : ns = ns' := by have := HSE.out; rw [List.length_map] at hns; omega
      clear hns
      have hbl : Below C w1 wr := ⟨hfr.os.trans hx.os, hfr.tape.trans hx.tape, hfr.output.trans hx.output, Nat.le_trans hx2 hwr, fun k hk => (hfr.block k (by omega) (by simp; omega)).trans (hx.block k (by omega))⟩
      have hCr := hB.lt
      have hv2 : ∀ g, (Value.slice As' ns cs').ownBlock = some g → g < wr.heap.size := fun g hg => (hB.r2.lt g hg).2
      have hcok := Lib.hid (codeB_ok (ss := ss) HF.out.ok (by omega) (ss.length + 1) 0 body (by omega))
      refine (specBlockC ss.length _ 0 w.heap.size x0 x1 _ A n c ss Ab nb cb body 0 0 0 (hs.keep (Nat.le_refl _) (Nat.le_refl _) HK.out) (hb.keep (Nat.le_refl _) (Nat.le_refl _) HK.out) (by omega) HF.out.all HF.out.ok HF.out.body (by omega) (by omega) rfl (by omega)).mono ?_
      rintro e w6 ⟨v6, rfl, hrv, hb6⟩
      obtain ⟨cbs, hcbs⟩ : ∃ x, x = codeB ss (ss.length + 1) 0 body := ⟨_, rfl⟩
      rw [← hcbs] at hcl hcok hrv
      have HCB := Lib.hid hcbs
      clear hcbs
      have hcs6 := hB.below hb6
      have hbl6 := hbl.trans (hb6.mono (by omega))
      have hw6 := hb6.size
      have hm6 : ∀ o, Below w6.heap.size w6 (w6.alloc o) := fun o => Below.alloc (Below.refl _ _) (Nat.le_refl _) o
      clear hb6 zf0 zf1 zf2 zf3
      go_wp2_with (at_builtin; refine wpl_app1 _ rfl _ _ rfl wr.heap.size v6 cbs rfl (hrv.below (hm6 _)) ⟨w6.heap.size, 0, none⟩ 1 16 0 rfl (cell_new2 _ _ _ _ (by simp)) (by omega) (by first | (simp; done) | (simp; omega)) ?_)
      intro v7 w7 hown hgr hat
      obtain ⟨bs, hbs⟩ : ∃ x, x = cbs ++ [((16 : Int), (0 : Int))] := ⟨_, rfl⟩
      rw [← hbs] at hown
      have hPl : bs.length = cbs.length + 1 := by rw [hbs]; simp
      obtain ⟨A7, P, c7, rfl, hP⟩ := hown.form
      have hP1 : P ≤ 241 := by omega
      have HBS := Lib.hid hbs
      have HP := Lib.hid hP.symm
      have h67 := hgr.size
      simp at h67
      have hcs7 : CSt w7 C x0 x1 (.slice As' ns cs') ((sitesF ss).map (nOf ss)) (.slice none 0 0) [] (.slice none 0 0) [] := (hcs6.below (hm6 _)).frame (fun k hk hlt ho => hgr.block k hlt (fun e => by
        have := (hrv.lt k e.symm).1
        rcases ho with rfl | ho | ho | ho
        · omega
        · have := hv2 k ho; omega
        · cases ho
        · cases ho))
      have hbl7 : Below C w1 w7 := (hbl6.trans ((hm6 _).mono (by omega))).grown hgr (by simp; omega) (fun g hg => by have := (hrv.lt g hg).1; omega)
      have hd7 : ∀ g, (Value.slice As' ns cs').ownBlock = some g → ¬ (Value.slice A7 P c7).ownBlock = some g := fun g e e2 => by have := hv2 g e; have := (hown.lt g e2).1; omega
      have hcs8 := hcs7.new3 (hown.mono (by omega)) hd7 (fun g _ e => by cases e)
      have hbl8 : Below C w1 (w7.setCell ⟨C, 3, none⟩ (.slice A7 P c7)) := hbl7.setCell (p := ⟨C, 3, none⟩) (Nat.le_refl _) _
      have hz8 : (w7.setCell ⟨C, 3, none⟩ (.slice A7 P c7)).heap.size = w7.heap.size := by simp
      have hlit := rowRow_new (w7.setCell ⟨C, 3, none⟩ (.slice A7 P c7)) (base := C + 1) hz8 (by omega) 0 P P
      have hcs9 := (hcs8.below (Below.alloc (Below.refl _ _) (Nat.le_refl _) _)).new4 hlit (fun g e e2 => by have := hv2 g e; simp [Value.ownBlock] at e2; omega) (fun g e e2 => by have := (hown.lt g e).2; simp [Value.ownBlock] at e2; omega)
      rw [World.setCell_alloc_past _ _ _ _ (by rw [hz8]; omega)] at hcs9
      have hbl9 : Below C w1 (((w7.setCell ⟨C, 3, none⟩ (.slice A7 P c7)).setCell ⟨C, 4, none⟩ (.slice (some ⟨w7.heap.size, 0, none⟩) 1 1)).alloc (.cells #[.int .i64 0, .int .i64 P, .int .i64 P] 196)) := (hbl8.setCell (p := ⟨C, 4, none⟩) (Nat.le_refl _) _).alloc (by simp; omega) _
      have k3 := hcs7.k3
      have k4 := hcs7.k4
      have k2 := hcs7.k2
      have kf3 := hcs7.kf 3
      have kf4 := hcs7.kf 4
      have hC7 := hcs7.lt
      clear hcs8 hcs7 hlit hbl8 hbl7 hcs6 hbl6 hrv hgr hat hbs hPl hP hcs2
      go_wp2_with fail
      obtain ⟨w10, hw10⟩ : ∃ x, x = ((w7.setCell ⟨C, 3, none⟩ (.slice A7 P c7)).setCell ⟨C, 4, none⟩ (.slice (some ⟨w7.heap.size, 0, none⟩) 1 1)).alloc (.cells #[.int .i64 0, .int .i64 P, .int .i64 P] 196) := ⟨_, rfl⟩
      rw [← hw10] at hcs9 hbl9 ⊢
      clear hw10 k2 k3 k4 kf3 kf4 hown h67 hz8 hB hbl hCr hC7
      go_loopw [10] (fun i wr => ∃ k : Nat, k ≤ ns ∧ i = .int .i64 ((ns : Int) - 1 - (k : Int)) ∧ ∃ v vr, CSt wr C x0 x1 (.slice As' ns cs') ((sitesF ss).map (nOf ss)) v (bs ++ padK ns k) vr ((0, (P : Int), (P : Int)) :: padRK P k) ∧ Below C w1 wr) (fun i _ => (intOf i + 1).toNat)
      case atStart => exact ⟨0, Nat.zero_le _, by first | go_num | (simp; done) | exact int_eq (by omega), _, _, by simpa [padK, padRK] using hcs9, hbl9⟩
      case round =>
        obtain ⟨k, hk, rfl, v, vr, hB, hbl⟩ := hrel
        have hm : ∀ o, Below wr.heap.size wr (wr.alloc o) := fun o => Below.alloc (Below.refl _ _) (Nat.le_refl _) o
        have hCw := hB.lt
        obtain ⟨xs, hxs⟩ : ∃ x, x = bs ++ padK ns k := ⟨_, rfl⟩
        obtain ⟨rs, hrs⟩ : ∃ x, x = (0, (P : Int), (P : Int)) :: padRK P k := ⟨_, rfl⟩
        rw [← hxs, ← hrs] at hB
        have hxl : xs.length = P + k := by rw [hxs, List.length_append, padK_len, HP.out]
        have hrl : rs.length ≤ 10 := by rw [hrs, List.length_cons, padRK_len]; omega
        obtain ⟨Av, a, cv, rfl, hav⟩ := hB.r3.form
        have ha : a = P + k := by omega
        have ha3 : a ≤ 300 := by omega
        have hxl3 : xs.length ≤ 300 := by omega
        have HXS := Lib.hid hxs
        have HRS := Lib.hid hrs
        have HA := Lib.hid ha
        have HXL := Lib.hid hxl
        have kk3 := hB.k3
        clear hxl hxs hrs ha hav
        by_cases hlt : k < ns
        · have hge : (0 : Int) ≤ (ns : Int) - 1 - (k : Int) := by omega
          go_wp2_with (at_builtin; refine wpl_app1 _ rfl _ _ rfl (C + 1) (.slice Av a cv) xs rfl (hB.r3.below (hm _)) ⟨wr.heap.size, 0, none⟩ 1 17 _ rfl (cell_new2 _ _ _ _ (by simp)) (by omega) (by first | (simp; done) | (simp; omega)) ?_)
          intro u w11 hown hgr hat
          obtain ⟨A9, n9, c9, rfl, hn9⟩ := hown.form
          clear hn9
          replace hown := hown.eq (l' := bs ++ padK ns (k + 1)) (by rw [padK_succ, HXS.out, List.append_assoc, show ((ns - 1 - k : Nat) : Int) = (ns : Int) - 1 - (k : Int) by omega])
          obtain ⟨_, _, _, m3, m4, mf⟩ := hB.mid3 (hm _) hgr
          have mf3 := mf 3
          have hB2 := hB.put3 (hm _) hgr hown (hat.imp id (fun e => by simpa using e))
          have hbl2 := hbl.trans (put3_fr (u := .slice A9 n9 c9) hB.r3 (Nat.le_refl _) (by omega) (hm _) hgr)
          have hC2 := hB2.lt
          have hC3 : C < w11.heap.size := by simpa using hC2
          have hm2 : ∀ o, Below (w11.setCell ⟨C, 3, none⟩ (.slice A9 n9 c9)).heap.size (w11.setCell ⟨C, 3, none⟩ (.slice A9 n9 c9)) ((w11.setCell ⟨C, 3, none⟩ (.slice A9 n9 c9)).alloc o) := fun o => Below.alloc (Below.refl _ _) (Nat.le_refl _) o
          clear hown hgr hat hB hbl mf kk3
          go_wp2_with (at_builtin; refine wpl_rapp1 _ rfl _ _ rfl (C + 1) vr rs rfl (hB2.r4.below (hm2 _)) ⟨w11.heap.size, 0, none⟩ 1 _ _ _ rfl (cell_new3 _ _ _ _ _ (by simp)) (by omega) (by first | (simp; done) | (simp; omega)) ?_)
          intro u2 w12 hown hgr hat
          obtain ⟨A8, n8, c8, rfl, hn8⟩ := hown.form
          clear hn8
          replace hown := hown.eq (l' := (0, (P : Int), (P : Int)) :: padRK P (k + 1)) (by rw [padRK_succ, HRS.out]; simp [HA.out])
          obtain ⟨_, _, _, _, n4, nf⟩ := hB2.mid4 (hm2 _) hgr
          have nf4 := nf 4
          have hB3 := hB2.put4 (hm2 _) hgr hown (hat.imp id (fun e => by simpa using e))
          have hbl3 := hbl2.trans (put4_fr (u := .slice A8 n8 c8) hB2.r4 (Nat.le_refl _) (by omega) (hm2 _) hgr)
          clear hown hgr hat hB2 hbl2 nf m3 m4 mf3 hC2
          go_wp2_with fail
          go_roundw
          case rel => exact ⟨k + 1, by omega, by first | go_num | exact int_eq (by omega), _, _, hB3, hbl3⟩
          case measure => simp [intOf]; omega
        · obtain rfl : ns = k := by omega
          have hge : ¬ (0 : Int) ≤ (ns : Int) - 1 - (ns : Int) := by omega
          obtain ⟨Ar, nr, cr, rfl, hnr⟩ := hB.r4.form
          clear hnr
          go_wp2_with (at_builtin; refine wpl_app1 _ rfl _ _ rfl (C + 1) (.slice Av a cv) xs rfl (hB.r3.below (hm _)) ⟨wr.heap.size, 0, none⟩ 1 18 _ rfl (cell_new2 _ _ _ _ (by simp)) (by omega) (by first | (simp; done) | (simp; omega)) ?_)
          intro u w11 hown hgr hat
          obtain ⟨A9, n9, c9, rfl, hn9⟩ := hown.form
          clear hn9
          obtain ⟨m0, m1, m2, m3, m4, mf⟩ := hB.mid3 (hm _) hgr
          have mf3 := mf 3
          have hB2 := hB.put3 (hm _) hgr hown (hat.imp id (fun e => by simpa using e))
          have hbl1 : Below C w1 w11 := (hbl.trans ((hm _).mono (by omega))).grown hgr (by simp; omega) (fun g hg => by have := (hB.r3.lt g hg).1; omega)
          have y0 : w11.cell? ⟨R, 0, none⟩ = _ := (hbl1.cell (p := ⟨R, 0, none⟩) hRC).trans xr0
          have y1 : w11.cell? ⟨R, 1, none⟩ = _ := (hbl1.cell (p := ⟨R, 1, none⟩) hRC).trans xr1
          have y2 : w11.cell? ⟨R, 2, none⟩ = _ := (hbl1.cell (p := ⟨R, 2, none⟩) hRC).trans xr2
          have y3 : w11.cell? ⟨R, 3, none⟩ = _ := (hbl1.cell (p := ⟨R, 3, none⟩) hRC).trans xr3
          have y4 : w11.cell? ⟨R, 4, none⟩ = _ := (hbl1.cell (p := ⟨R, 4, none⟩) hRC).trans xr4
          have yf : ∀ j, w11.frozen? ⟨R, j, none⟩ = false := fun j => (hbl1.frozen (p := ⟨R, j, none⟩) hRC).trans (hRf j)
          have hRC' : ¬ R = C := by omega
          clear hown hgr hat hB hbl mf kk3
          go_wp2_with fail
          refine bodyPost_ret (v := .agg #[.int .i64 x0, .int .i64 x1, .slice As' ns cs', .slice A9 n9 c9, .slice Ar nr cr]) (by simp [results, Try.results135, go_sem, y0, y1, y2, y3, y4, hRC']) rfl ?_
          have hlow : lowF (x0, x1, body, ss) = (x0, x1, (sitesF ss).map (nOf ss), xs ++ [(18, 0)], rs) := by
            unfold lowF
            dsimp only
            rw [← HCB.out, ← HBS.out, HP.out, HSE.out, padK_all, padRK_all, HXS.out, HRS.out, List.append_assoc]
          rw [hlow]
          have hk : ∀ k, ¬ k = R → ((((((w11.setCell ⟨C, 3, none⟩ (.slice A9 n9 c9)).setCell ⟨R, 0, none⟩ (.int .i64 x0)).setCell ⟨R, 1, none⟩ (.int .i64 x1)).setCell ⟨R, 2, none⟩ (.slice As' ns cs')).setCell ⟨R, 3, none⟩ (.slice A9 n9 c9)).setCell ⟨R, 4, none⟩ (.slice Ar nr cr)).heap[k]? = (w11.setCell ⟨C, 3, none⟩ (.slice A9 n9 c9)).heap[k]? := by
            intro k g2
            rw [Below.heap_setCell _ _ _ _ g2, Below.heap_setCell _ _ _ _ g2, Below.heap_setCell _ _ _ _ g2, Below.heap_setCell _ _ _ _ g2, Below.heap_setCell _ _ _ _ g2]
          have hbw : Below w.heap.size w w11 := hb1.trans (hbl1.mono (by omega))
          refine ⟨_, _, _, _, _, _, _, _, _, rfl, ((hB2.r2.keep fun k e => hk k (by have := (hB2.r2.lt k e).1; omega)).own ?_).toSl (fun k hk => by have := hB2.r2.lt k (by simpa using hk); simp only [World.setCell] at this ⊢; simp at this ⊢; omega), ((hB2.r3.keep fun k e => hk k (by have := (hB2.r3.lt k e).1; omega)).own ?_).toSl (fun k hk => by have := hB2.r3.lt k (by simpa using hk); simp only [World.setCell] at this ⊢; simp at this ⊢; omega), ((hB2.r4.keep fun k e => hk k (by have := (hB2.r4.lt k e).1; omega)).own ?_).toSl (fun k hk => by have := hB2.r4.lt k (by simpa using hk); simp only [World.setCell] at this ⊢; simp at this ⊢; omega), ?_⟩
          · intro x hx
            obtain ⟨z, _, rfl⟩ := List.mem_map.1 hx
            have := nOf_ok (ss := ss) HF.out.ok z
            unfold I64; omega
          · intro x hx
            rw [HXS.out, HBS.out] at hx
            simp only [List.mem_append, List.mem_singleton] at hx
            rcases hx with ((hx | rfl) | hx) | rfl
            · exact hcok.out x hx
            · exact ⟨by unfold I64; simp, by unfold I64; simp⟩
            · exact padK_ok (by omega) x hx
            · exact ⟨by unfold I64; simp, by unfold I64; simp⟩
          · intro x hx
            rw [HRS.out] at hx
            rcases List.mem_cons.1 hx with rfl | hx
            · refine ⟨?_, ?_, ?_⟩ <;> (simp only [I64]; omega)
            · exact padRK_ok (by omega) x hx
          · (repeat (first | with_reducible exact Below.refl _ _ | with_reducible assumption | with_reducible refine below_alloc ?_ _ | ((with_reducible refine Below.setCell ?_ ?_ _); rotate_left; (· first | exact Nat.le_refl _ | (simp; done) | (simp; omega))) | with_reducible refine below_drewN ?_ _ | with_reducible refine Below.drew ?_ | with_reducible refine below_then ?_ (by with_reducible assumption)))
end Go.Proofs.Ytkedpaopnnhinaa

/- LowerFunc and LongOf: walks of both sides. -/
set_option linter.unusedVariables false
set_option linter.unusedSimpArgs false
set_option maxRecDepth 100000
namespace Go.Proofs.Ytkedpaopnnhinaa
open Go.RowKit
theorem lowF_len {f : Func} (h : LowF f) : (lowF f).2.2.2.1.length ≤ 246 := by
  have h1 := codeB_long h
  have h2 := h.sites
  unfold lowF
  simp only [List.length_append, List.length_cons, List.length_nil]
  have : ∀ p m, (padI p m).length = m := fun p m => by simp [padI]
  rw [this]; omega
def lowVB (fs : List Func) (v : Int) : Bool := goodP fs && inB v 0 ((fs.length : Int) - 1)
def lowC (fs : List Func) (v : Int) : Code := if lowVB fs v = true then ((fs[v.toNat]?).map lowF).getD (0, 0, [], [], []) else (0, 0, [], [], [])
theorem lowC_at {fs : List Func} {j : Nat} (h : lowVB fs (j : Int) = true) (hj : j < fs.length) : lowC fs (j : Int) = lowF fs[j] := by
  unfold lowC; rw [if_pos h]; simp [hj]
theorem lowC_no {fs : List Func} {v : Int} (h : lowVB fs v = false) : lowC fs v = (0, 0, [], [], []) := by unfold lowC; rw [h]; rfl
theorem lowC_len (fs : List Func) (v : Int) : (lowC fs v).2.2.2.1.length ≤ 246 := by
  by_cases h : lowVB fs v = true
  · have h0 := h
    unfold lowVB at h
    rw [Bool.and_eq_true] at h
    have h2 := inB_iff.1 h.2
    obtain ⟨j, rfl⟩ := Int.eq_ofNat_of_zero_le (show 0 ≤ v by omega)
    have hj : j < fs.length := by omega
    rw [lowC_at h0 hj]
    exact lowF_len ((goodP_low h.1).2 _ (List.getElem_mem hj))
  · rw [lowC_no (by simpa using h)]; simp
/-- The call returns a code that is read, and whether it is one. -/
def RetCodeSB (c : Code) (b : Bool) (w : World) (e : Ending) (w' : World) : Prop :=
  ∃ A2 n2 c2 A3 n3 c3 A4 n4 c4, e = .returned (.tuple #[.agg #[.int .i64 c.1, .int .i64 c.2.1, .slice A2 n2 c2, .slice A3 n3 c3, .slice A4 n4 c4], .bool b]) ∧ Sl intR w' 0 w'.heap.size A2 n2 c2 c.2.2.1 ∧ Sl InsR w' 0 w'.heap.size A3 n3 c3 c.2.2.2.1 ∧ Sl RowR w' 0 w'.heap.size A4 n4 c4 c.2.2.2.2 ∧ Below w.heap.size w w'
theorem RetCodeB.toS {c : Code} {b : Bool} {w w' : World} {e : Ending} (h : RetCodeB c b w e w') : RetCodeSB c b w e w' := by
  obtain ⟨A2, n2, c2, A3, n3, c3, A4, n4, c4, F2, F3, F4, rfl, h2, h3, h4, _, _, hb⟩ := h
  exact ⟨_, _, _, _, _, _, _, _, _, rfl, h2.sl, h3.sl, h4.sl, hb⟩
set_option maxHeartbeats 4000000 in
theorem implLowerFunc2 (w : World) (lo hi : Nat) (A : Option Addr) (n c : Nat) (fs : List Func) (v : Int) (h : Sl FuncR w lo hi A n c fs) (hh : hi ≤ w.heap.size) (hm : mszLFunc fs ≤ 1048576) :
    Calls Try.prog 59 #[.agg #[.slice A n c], .int .i64 v] w (RetCodeB (lowC fs v) (lowVB fs v) w) := by
  have e1 := h.lenEq
  have hml := mszLFunc_len fs
  generalize hg0 : goodP fs = g
  have hg := Lib.hid hg0
  cases g
  · have hT := Lib.hid (show lowVB fs v = false by unfold lowVB; rw [hg.out]; rfl)
    rw [hT.out, lowC_no hT.out]
    clear hg0
    go_enter Try.func59, Try.ntmps59
    go_wp2_with fail
    refine (implIsProg _ lo hi A n c fs (h.below (show Below w.heap.size w _ by (repeat (first | with_reducible exact Below.refl _ _ | with_reducible assumption | with_reducible refine below_alloc ?_ _ | ((with_reducible refine Below.setCell ?_ ?_ _); rotate_left; (· first | exact Nat.le_refl _ | (simp; done) | (simp; omega))) | with_reducible refine below_drewN ?_ _ | with_reducible refine Below.drew ?_ | with_reducible refine below_then ?_ (by with_reducible assumption)))) hh) (by first | omega | (simp; omega)) hm).mono ?_
    rintro e w2 ⟨rfl, hb2⟩
    rw [hg.out]
    have hx2 : Below w.heap.size w w2 := by (repeat (first | with_reducible exact Below.refl _ _ | with_reducible assumption | with_reducible refine below_alloc ?_ _ | ((with_reducible refine Below.setCell ?_ ?_ _); rotate_left; (· first | exact Nat.le_refl _ | (simp; done) | (simp; omega))) | with_reducible refine below_drewN ?_ _ | with_reducible refine Below.drew ?_ | with_reducible refine below_then ?_ (by with_reducible assumption)))
    obtain ⟨hcE, hfE⟩ := bcell hb2
    have p0 : w2.cell? ⟨w.heap.size, 0, none⟩ = some (.slice A n c) := by simp [hcE, go_sem]
    have r0 : w2.cell? ⟨w.heap.size + 1, 0, none⟩ = some (.int .i64 0) := by simp [hcE, go_sem]
    have r1 : w2.cell? ⟨w.heap.size + 1, 1, none⟩ = some (.int .i64 0) := by simp [hcE, go_sem]
    have r2 : w2.cell? ⟨w.heap.size + 1, 2, none⟩ = some (.slice none 0 0) := by simp [hcE, go_sem]
    have r3 : w2.cell? ⟨w.heap.size + 1, 3, none⟩ = some (.slice none 0 0) := by simp [hcE, go_sem]
    have r4 : w2.cell? ⟨w.heap.size + 1, 4, none⟩ = some (.slice none 0 0) := by simp [hcE, go_sem]
    have rf : ∀ j, w2.frozen? ⟨w.heap.size + 1, j, none⟩ = false := fun j => by simp [hfE, go_sem]
    have hR2 : w.heap.size + 1 < w2.heap.size := World.block_lt_of_cell? w2 _ r0
    clear hcE hfE hb2
    go_wp2_with (go_at_call 110; ((with_reducible refine (implWithin _ _ _ _).mono ?_); rintro e w3 ⟨rfl, rfl⟩))
    refine bodyPost_ret (v := .tuple #[.agg #[.int .i64 0, .int .i64 0, .slice none 0 0, .slice none 0 0, .slice none 0 0], .bool false]) (by simp [results, Try.results59, go_sem, r0, r1, r2, r3, r4]) rfl ?_
    exact RetCodeB.none (by (repeat (first | with_reducible exact Below.refl _ _ | with_reducible assumption | with_reducible refine below_alloc ?_ _ | ((with_reducible refine Below.setCell ?_ ?_ _); rotate_left; (· first | exact Nat.le_refl _ | (simp; done) | (simp; omega))) | with_reducible refine below_drewN ?_ _ | with_reducible refine Below.drew ?_ | with_reducible refine below_then ?_ (by with_reducible assumption))))
  by_cases hv : inB v 0 ((fs.length : Int) - 1) = true
  rotate_left
  · have hv : inB v 0 ((fs.length : Int) - 1) = false := by simpa using hv
    have hT := Lib.hid (show lowVB fs v = false by unfold lowVB; rw [hv, Bool.and_false])
    rw [hT.out, lowC_no hT.out]
    rw [e1] at hv
    clear hg0
    go_enter Try.func59, Try.ntmps59
    go_wp2_with fail
    refine (implIsProg _ lo hi A n c fs (h.below (show Below w.heap.size w _ by (repeat (first | with_reducible exact Below.refl _ _ | with_reducible assumption | with_reducible refine below_alloc ?_ _ | ((with_reducible refine Below.setCell ?_ ?_ _); rotate_left; (· first | exact Nat.le_refl _ | (simp; done) | (simp; omega))) | with_reducible refine below_drewN ?_ _ | with_reducible refine Below.drew ?_ | with_reducible refine below_then ?_ (by with_reducible assumption)))) hh) (by first | omega | (simp; omega)) hm).mono ?_
    rintro e w2 ⟨rfl, hb2⟩
    rw [hg.out]
    have hx2 : Below w.heap.size w w2 := by (repeat (first | with_reducible exact Below.refl _ _ | with_reducible assumption | with_reducible refine below_alloc ?_ _ | ((with_reducible refine Below.setCell ?_ ?_ _); rotate_left; (· first | exact Nat.le_refl _ | (simp; done) | (simp; omega))) | with_reducible refine below_drewN ?_ _ | with_reducible refine Below.drew ?_ | with_reducible refine below_then ?_ (by with_reducible assumption)))
    obtain ⟨hcE, hfE⟩ := bcell hb2
    have p0 : w2.cell? ⟨w.heap.size, 0, none⟩ = some (.slice A n c) := by simp [hcE, go_sem]
    have r0 : w2.cell? ⟨w.heap.size + 1, 0, none⟩ = some (.int .i64 0) := by simp [hcE, go_sem]
    have r1 : w2.cell? ⟨w.heap.size + 1, 1, none⟩ = some (.int .i64 0) := by simp [hcE, go_sem]
    have r2 : w2.cell? ⟨w.heap.size + 1, 2, none⟩ = some (.slice none 0 0) := by simp [hcE, go_sem]
    have r3 : w2.cell? ⟨w.heap.size + 1, 3, none⟩ = some (.slice none 0 0) := by simp [hcE, go_sem]
    have r4 : w2.cell? ⟨w.heap.size + 1, 4, none⟩ = some (.slice none 0 0) := by simp [hcE, go_sem]
    have rf : ∀ j, w2.frozen? ⟨w.heap.size + 1, j, none⟩ = false := fun j => by simp [hfE, go_sem]
    have hR2 : w.heap.size + 1 < w2.heap.size := World.block_lt_of_cell? w2 _ r0
    clear hcE hfE hb2
    go_wp2_with (go_at_call 110; ((with_reducible refine (implWithin _ _ _ _).mono ?_); rintro e w3 ⟨rfl, rfl⟩))
    refine bodyPost_ret (v := .tuple #[.agg #[.int .i64 0, .int .i64 0, .slice none 0 0, .slice none 0 0, .slice none 0 0], .bool false]) (by simp [results, Try.results59, go_sem, r0, r1, r2, r3, r4]) rfl ?_
    exact RetCodeB.none (by (repeat (first | with_reducible exact Below.refl _ _ | with_reducible assumption | with_reducible refine below_alloc ?_ _ | ((with_reducible refine Below.setCell ?_ ?_ _); rotate_left; (· first | exact Nat.le_refl _ | (simp; done) | (simp; omega))) | with_reducible refine below_drewN ?_ _ | with_reducible refine Below.drew ?_ | with_reducible refine below_then ?_ (by with_reducible assumption))))
  have hT := Lib.hid (show lowVB fs v = true by unfold lowVB; rw [hg.out, hv]; rfl)
  have hv' := inB_iff.1 hv
  rw [e1] at hv
  obtain ⟨v0, v1⟩ := hv'
  obtain ⟨j, rfl⟩ := Int.eq_ofNat_of_zero_le v0
  have hj : j < n := by omega
  have hj' : j < fs.length := by omega
  have hlo := (goodP_low hg.out).2 _ (List.getElem_mem hj')
  rw [hT.out, lowC_at hT.out hj']
  have HLO := Lib.hid hlo
  have hll := Lib.hid (lowF_len hlo)
  have gA : (0 : Int) ≤ (j : Int) := by omega
  have gB : (j : Int) < (n : Int) := by omega
  generalize hlf : lowF (fs[j]'hj') = lc at hll ⊢
  obtain ⟨z0, z1, zs, zi, zr⟩ := lc
  have HLF := Lib.hid hlf
  clear hg0 hlo hlf
  go_enter Try.func59, Try.ntmps59
  go_wp2_with fail
  refine (implIsProg _ lo hi A n c fs (h.below (show Below w.heap.size w _ by (repeat (first | with_reducible exact Below.refl _ _ | with_reducible assumption | with_reducible refine below_alloc ?_ _ | ((with_reducible refine Below.setCell ?_ ?_ _); rotate_left; (· first | exact Nat.le_refl _ | (simp; done) | (simp; omega))) | with_reducible refine below_drewN ?_ _ | with_reducible refine Below.drew ?_ | with_reducible refine below_then ?_ (by with_reducible assumption)))) hh) (by first | omega | (simp; omega)) hm).mono ?_
  rintro e w2 ⟨rfl, hb2⟩
  rw [hg.out]
  have hx2 : Below w.heap.size w w2 := by (repeat (first | with_reducible exact Below.refl _ _ | with_reducible assumption | with_reducible refine below_alloc ?_ _ | ((with_reducible refine Below.setCell ?_ ?_ _); rotate_left; (· first | exact Nat.le_refl _ | (simp; done) | (simp; omega))) | with_reducible refine below_drewN ?_ _ | with_reducible refine Below.drew ?_ | with_reducible refine below_then ?_ (by with_reducible assumption)))
  obtain ⟨hcE, hfE⟩ := bcell hb2
  have p0 : w2.cell? ⟨w.heap.size, 0, none⟩ = some (.slice A n c) := by simp [hcE, go_sem]
  have r0 : w2.cell? ⟨w.heap.size + 1, 0, none⟩ = some (.int .i64 0) := by simp [hcE, go_sem]
  have r1 : w2.cell? ⟨w.heap.size + 1, 1, none⟩ = some (.int .i64 0) := by simp [hcE, go_sem]
  have r2 : w2.cell? ⟨w.heap.size + 1, 2, none⟩ = some (.slice none 0 0) := by simp [hcE, go_sem]
  have r3 : w2.cell? ⟨w.heap.size + 1, 3, none⟩ = some (.slice none 0 0) := by simp [hcE, go_sem]
  have r4 : w2.cell? ⟨w.heap.size + 1, 4, none⟩ = some (.slice none 0 0) := by simp [hcE, go_sem]
  have rf : ∀ j, w2.frozen? ⟨w.heap.size + 1, j, none⟩ = false := fun j => by simp [hfE, go_sem]
  have hR2 : w.heap.size + 1 < w2.heap.size := World.block_lt_of_cell? w2 _ r0
  clear hcE hfE hb2
  obtain ⟨bp, op, x0, x1, Ab, nb, cb, body, B, m, d, ss, rfl, _, _, hl0, i0, i1, hb, hs, d0, d1, d2, d3⟩ := Func_at (h.below hx2 hh) hj
  rw [hl0] at HLO HLF
  have hzz := hx2.size
  clear hl0
  go_wp2_with (go_at_call 110; ((with_reducible refine (implWithin _ _ _ _).mono ?_); rintro e w3 ⟨rfl, rfl⟩))
  have hcall := implLowerFunc w2 lo hi x0 x1 Ab nb cb body B m d ss hb hs (by omega) HLO.out i0 i1
  rw [HLF.out] at hcall
  refine hcall.mono ?_
  clear hcall
  rintro e w5 ⟨A2, n2, c2, A3, n3, c3, A4, n4, c4, F2, F3, F4, rfl, s2, s3, s4, snd, sF, hb5⟩
  replace r0 := below_cell hb5 r0
  replace r1 := below_cell hb5 r1
  replace r2 := below_cell hb5 r2
  replace r3 := below_cell hb5 r3
  replace r4 := below_cell hb5 r4
  have hR5 : w.heap.size + 1 < w5.heap.size := World.block_lt_of_cell? w5 _ r0
  have rf5 : ∀ i, w5.frozen? ⟨w.heap.size + 1, i, none⟩ = false := fun i => (hb5.frozen (p := ⟨w.heap.size + 1, i, none⟩) hR2).trans (rf i)
  have hx5 := below_then hx2 hb5
  simp only at s2 s3 s4
  clear rf hb5
  go_wp2_with fail
  refine bodyPost_ret (v := .tuple #[.agg #[.int .i64 z0, .int .i64 z1, .slice A2 n2 c2, .slice A3 n3 c3, .slice A4 n4 c4], .bool true]) (by simp [results, Try.results59, go_sem, r0, r1, r2, r3, r4, hR5]) rfl ?_
  have hk : ∀ k, w2.heap.size ≤ k → (((((w5.setCell ⟨w.heap.size + 1, 0, none⟩ (.int .i64 z0)).setCell ⟨w.heap.size + 1, 1, none⟩ (.int .i64 z1)).setCell ⟨w.heap.size + 1, 2, none⟩ (.slice A2 n2 c2)).setCell ⟨w.heap.size + 1, 3, none⟩ (.slice A3 n3 c3)).setCell ⟨w.heap.size + 1, 4, none⟩ (.slice A4 n4 c4)).heap[k]? = w5.heap[k]? := by
    intro k g1
    have g3 : k ≠ w.heap.size + 1 := by omega
    rw [Below.heap_setCell _ _ _ _ g3, Below.heap_setCell _ _ _ _ g3, Below.heap_setCell _ _ _ _ g3, Below.heap_setCell _ _ _ _ g3, Below.heap_setCell _ _ _ _ g3]
  exact ⟨_, _, _, _, _, _, _, _, _, F2, F3, F4, rfl, s2.keep (fun k hx => hk k (sF k (List.mem_append_left _ hx))), s3.keep (fun k hx => hk k (sF k (List.mem_append_right _ (List.mem_append_left _ hx)))), s4.keep (fun k hx => hk k (sF k (List.mem_append_right _ (List.mem_append_right _ hx)))), snd, (fun k hx => by have := sF k hx; omega), by (repeat (first | with_reducible exact Below.refl _ _ | with_reducible assumption | with_reducible refine below_alloc ?_ _ | ((with_reducible refine Below.setCell ?_ ?_ _); rotate_left; (· first | exact Nat.le_refl _ | (simp; done) | (simp; omega))) | with_reducible refine below_drewN ?_ _ | with_reducible refine Below.drew ?_ | with_reducible refine below_then ?_ (by with_reducible assumption)))⟩
set_option maxHeartbeats 4000000 in
theorem specLowerFunc (w : World) (lo hi : Nat) (A : Option Addr) (n c : Nat) (fs : List Func) (v : Int) (h : Sl FuncR w lo hi A n c fs) (hh : hi ≤ w.heap.size) (hm : mszLFunc fs ≤ 1048576) :
    Calls Try.prog 57 #[.agg #[.slice A n c], .int .i64 v] w (RetCodeSB (lowC fs v) (lowVB fs v) w) := by
  have e1 := h.lenEq
  have hml := mszLFunc_len fs
  generalize hg0 : goodP fs = g
  have hg := Lib.hid hg0
  cases g
  · have hT := Lib.hid (show lowVB fs v = false by unfold lowVB; rw [hg.out]; rfl)
    rw [hT.out, lowC_no hT.out]
    clear hg0
    go_enter Try.func57, Try.ntmps57
    go_wp2_with fail
    refine (specGoodProg _ lo hi A n c fs (h.below (show Below w.heap.size w _ by (repeat (first | with_reducible exact Below.refl _ _ | with_reducible assumption | with_reducible refine below_alloc ?_ _ | ((with_reducible refine Below.setCell ?_ ?_ _); rotate_left; (· first | exact Nat.le_refl _ | (simp; done) | (simp; omega))) | with_reducible refine below_drewN ?_ _ | with_reducible refine Below.drew ?_ | with_reducible refine below_then ?_ (by with_reducible assumption)))) hh) (by first | omega | (simp; omega)) hm).mono ?_
    rintro e w2 ⟨rfl, hb2⟩
    rw [hg.out]
    have hx2 : Below w.heap.size w w2 := by (repeat (first | with_reducible exact Below.refl _ _ | with_reducible assumption | with_reducible refine below_alloc ?_ _ | ((with_reducible refine Below.setCell ?_ ?_ _); rotate_left; (· first | exact Nat.le_refl _ | (simp; done) | (simp; omega))) | with_reducible refine below_drewN ?_ _ | with_reducible refine Below.drew ?_ | with_reducible refine below_then ?_ (by with_reducible assumption)))
    obtain ⟨hcE, hfE⟩ := bcell hb2
    have p0 : w2.cell? ⟨w.heap.size, 0, none⟩ = some (.slice A n c) := by simp [hcE, go_sem]
    have r0 : w2.cell? ⟨w.heap.size + 1, 0, none⟩ = some (.int .i64 0) := by simp [hcE, go_sem]
    have r1 : w2.cell? ⟨w.heap.size + 1, 1, none⟩ = some (.int .i64 0) := by simp [hcE, go_sem]
    have r2 : w2.cell? ⟨w.heap.size + 1, 2, none⟩ = some (.slice none 0 0) := by simp [hcE, go_sem]
    have r3 : w2.cell? ⟨w.heap.size + 1, 3, none⟩ = some (.slice none 0 0) := by simp [hcE, go_sem]
    have r4 : w2.cell? ⟨w.heap.size + 1, 4, none⟩ = some (.slice none 0 0) := by simp [hcE, go_sem]
    have rf : ∀ j, w2.frozen? ⟨w.heap.size + 1, j, none⟩ = false := fun j => by simp [hfE, go_sem]
    have hR2 : w.heap.size + 1 < w2.heap.size := World.block_lt_of_cell? w2 _ r0
    clear hcE hfE hb2
    go_wp2_with (go_at_call 113; ((with_reducible refine (specL1In _ _ _ _).mono ?_); rintro e w3 ⟨rfl, rfl⟩))
    refine bodyPost_ret (v := .tuple #[.agg #[.int .i64 0, .int .i64 0, .slice none 0 0, .slice none 0 0, .slice none 0 0], .bool false]) (by simp [results, Try.results57, go_sem, r0, r1, r2, r3, r4]) rfl ?_
    exact (RetCodeB.none (by (repeat (first | with_reducible exact Below.refl _ _ | with_reducible assumption | with_reducible refine below_alloc ?_ _ | ((with_reducible refine Below.setCell ?_ ?_ _); rotate_left; (· first | exact Nat.le_refl _ | (simp; done) | (simp; omega))) | with_reducible refine below_drewN ?_ _ | with_reducible refine Below.drew ?_ | with_reducible refine below_then ?_ (by with_reducible assumption))))).toS
  by_cases hv : inB v 0 ((fs.length : Int) - 1) = true
  rotate_left
  · have hv : inB v 0 ((fs.length : Int) - 1) = false := by simpa using hv
    have hT := Lib.hid (show lowVB fs v = false by unfold lowVB; rw [hv, Bool.and_false])
    rw [hT.out, lowC_no hT.out]
    rw [e1] at hv
    clear hg0
    go_enter Try.func57, Try.ntmps57
    go_wp2_with fail
    refine (specGoodProg _ lo hi A n c fs (h.below (show Below w.heap.size w _ by (repeat (first | with_reducible exact Below.refl _ _ | with_reducible assumption | with_reducible refine below_alloc ?_ _ | ((with_reducible refine Below.setCell ?_ ?_ _); rotate_left; (· first | exact Nat.le_refl _ | (simp; done) | (simp; omega))) | with_reducible refine below_drewN ?_ _ | with_reducible refine Below.drew ?_ | with_reducible refine below_then ?_ (by with_reducible assumption)))) hh) (by first | omega | (simp; omega)) hm).mono ?_
    rintro e w2 ⟨rfl, hb2⟩
    rw [hg.out]
    have hx2 : Below w.heap.size w w2 := by (repeat (first | with_reducible exact Below.refl _ _ | with_reducible assumption | with_reducible refine below_alloc ?_ _ | ((with_reducible refine Below.setCell ?_ ?_ _); rotate_left; (· first | exact Nat.le_refl _ | (simp; done) | (simp; omega))) | with_reducible refine below_drewN ?_ _ | with_reducible refine Below.drew ?_ | with_reducible refine below_then ?_ (by with_reducible assumption)))
    obtain ⟨hcE, hfE⟩ := bcell hb2
    have p0 : w2.cell? ⟨w.heap.size, 0, none⟩ = some (.slice A n c) := by simp [hcE, go_sem]
    have r0 : w2.cell? ⟨w.heap.size + 1, 0, none⟩ = some (.int .i64 0) := by simp [hcE, go_sem]
    have r1 : w2.cell? ⟨w.heap.size + 1, 1, none⟩ = some (.int .i64 0) := by simp [hcE, go_sem]
    have r2 : w2.cell? ⟨w.heap.size + 1, 2, none⟩ = some (.slice none 0 0) := by simp [hcE, go_sem]
    have r3 : w2.cell? ⟨w.heap.size + 1, 3, none⟩ = some (.slice none 0 0) := by simp [hcE, go_sem]
    have r4 : w2.cell? ⟨w.heap.size + 1, 4, none⟩ = some (.slice none 0 0) := by simp [hcE, go_sem]
    have rf : ∀ j, w2.frozen? ⟨w.heap.size + 1, j, none⟩ = false := fun j => by simp [hfE, go_sem]
    have hR2 : w.heap.size + 1 < w2.heap.size := World.block_lt_of_cell? w2 _ r0
    clear hcE hfE hb2
    go_wp2_with (go_at_call 113; ((with_reducible refine (specL1In _ _ _ _).mono ?_); rintro e w3 ⟨rfl, rfl⟩))
    refine bodyPost_ret (v := .tuple #[.agg #[.int .i64 0, .int .i64 0, .slice none 0 0, .slice none 0 0, .slice none 0 0], .bool false]) (by simp [results, Try.results57, go_sem, r0, r1, r2, r3, r4]) rfl ?_
    exact (RetCodeB.none (by (repeat (first | with_reducible exact Below.refl _ _ | with_reducible assumption | with_reducible refine below_alloc ?_ _ | ((with_reducible refine Below.setCell ?_ ?_ _); rotate_left; (· first | exact Nat.le_refl _ | (simp; done) | (simp; omega))) | with_reducible refine below_drewN ?_ _ | with_reducible refine Below.drew ?_ | with_reducible refine below_then ?_ (by with_reducible assumption))))).toS
  have hT := Lib.hid (show lowVB fs v = true by unfold lowVB; rw [hg.out, hv]; rfl)
  have hv' := inB_iff.1 hv
  rw [e1] at hv
  obtain ⟨v0, v1⟩ := hv'
  obtain ⟨j, rfl⟩ := Int.eq_ofNat_of_zero_le v0
  have hj : j < n := by omega
  have hj' : j < fs.length := by omega
  have hlo := (goodP_low hg.out).2 _ (List.getElem_mem hj')
  rw [hT.out, lowC_at hT.out hj']
  have HLO := Lib.hid hlo
  have hll := Lib.hid (lowF_len hlo)
  have gA : (0 : Int) ≤ (j : Int) := by omega
  have gB : (j : Int) < (n : Int) := by omega
  generalize hlf : lowF (fs[j]'hj') = lc at hll ⊢
  obtain ⟨z0, z1, zs, zi, zr⟩ := lc
  have HLF := Lib.hid hlf
  clear hg0 hlo hlf
  go_enter Try.func57, Try.ntmps57
  go_wp2_with fail
  refine (specGoodProg _ lo hi A n c fs (h.below (show Below w.heap.size w _ by (repeat (first | with_reducible exact Below.refl _ _ | with_reducible assumption | with_reducible refine below_alloc ?_ _ | ((with_reducible refine Below.setCell ?_ ?_ _); rotate_left; (· first | exact Nat.le_refl _ | (simp; done) | (simp; omega))) | with_reducible refine below_drewN ?_ _ | with_reducible refine Below.drew ?_ | with_reducible refine below_then ?_ (by with_reducible assumption)))) hh) (by first | omega | (simp; omega)) hm).mono ?_
  rintro e w2 ⟨rfl, hb2⟩
  rw [hg.out]
  have hx2 : Below w.heap.size w w2 := by (repeat (first | with_reducible exact Below.refl _ _ | with_reducible assumption | with_reducible refine below_alloc ?_ _ | ((with_reducible refine Below.setCell ?_ ?_ _); rotate_left; (· first | exact Nat.le_refl _ | (simp; done) | (simp; omega))) | with_reducible refine below_drewN ?_ _ | with_reducible refine Below.drew ?_ | with_reducible refine below_then ?_ (by with_reducible assumption)))
  obtain ⟨hcE, hfE⟩ := bcell hb2
  have p0 : w2.cell? ⟨w.heap.size, 0, none⟩ = some (.slice A n c) := by simp [hcE, go_sem]
  have r0 : w2.cell? ⟨w.heap.size + 1, 0, none⟩ = some (.int .i64 0) := by simp [hcE, go_sem]
  have r1 : w2.cell? ⟨w.heap.size + 1, 1, none⟩ = some (.int .i64 0) := by simp [hcE, go_sem]
  have r2 : w2.cell? ⟨w.heap.size + 1, 2, none⟩ = some (.slice none 0 0) := by simp [hcE, go_sem]
  have r3 : w2.cell? ⟨w.heap.size + 1, 3, none⟩ = some (.slice none 0 0) := by simp [hcE, go_sem]
  have r4 : w2.cell? ⟨w.heap.size + 1, 4, none⟩ = some (.slice none 0 0) := by simp [hcE, go_sem]
  have rf : ∀ j, w2.frozen? ⟨w.heap.size + 1, j, none⟩ = false := fun j => by simp [hfE, go_sem]
  have hR2 : w.heap.size + 1 < w2.heap.size := World.block_lt_of_cell? w2 _ r0
  clear hcE hfE hb2
  go_wp2_with (go_at_call 113; ((with_reducible refine (specL1In _ _ _ _).mono ?_); rintro e w3 ⟨rfl, rfl⟩))
  have hcall := specL6Func w2 lo hi A n c fs j (h.below hx2 hh) (by have := hx2.size; omega) hj HLO.out
  rw [HLF.out] at hcall
  refine hcall.mono ?_
  clear hcall
  rintro e w5 ⟨A2, n2, c2, A3, n3, c3, A4, n4, c4, rfl, s2, s3, s4, hb5⟩
  have hzz := hx2.size
  replace r0 := below_cell hb5 r0
  replace r1 := below_cell hb5 r1
  replace r2 := below_cell hb5 r2
  replace r3 := below_cell hb5 r3
  replace r4 := below_cell hb5 r4
  have hR5 : w.heap.size + 1 < w5.heap.size := World.block_lt_of_cell? w5 _ r0
  have rf5 : ∀ i, w5.frozen? ⟨w.heap.size + 1, i, none⟩ = false := fun i => (hb5.frozen (p := ⟨w.heap.size + 1, i, none⟩) hR2).trans (rf i)
  have hn3 : n3 ≤ 246 := by have h8 : zi.length ≤ 246 := hll.out; have h9 : zi.length = n3 := s3.lenEq; omega
  have hn3' : ¬ (300 : Int) < (n3 : Int) := by omega
  have hx5 := below_then hx2 hb5
  simp only at s2 s3 s4
  clear rf hb5 hx2
  go_wp2_with fail
  refine bodyPost_ret (v := .tuple #[.agg #[.int .i64 z0, .int .i64 z1, .slice A2 n2 c2, .slice A3 n3 c3, .slice A4 n4 c4], .bool true]) (by simp [results, Try.results57, go_sem, r0, r1, r2, r3, r4, hR5]) rfl ?_
  have hk : ∀ k, w2.heap.size ≤ k → k < w5.heap.size → ((((((w5.setCell ⟨w.heap.size + 1, 0, none⟩ (.int .i64 z0)).setCell ⟨w.heap.size + 1, 1, none⟩ (.int .i64 z1)).setCell ⟨w.heap.size + 1, 2, none⟩ (.slice A2 n2 c2)).setCell ⟨w.heap.size + 1, 3, none⟩ (.slice A3 n3 c3)).setCell ⟨w.heap.size + 1, 4, none⟩ (.slice A4 n4 c4)).alloc (.cells #[.int .i64 z0, .int .i64 z1, .slice A2 n2 c2, .slice A3 n3 c3, .slice A4 n4 c4] 44)).heap[k]? = w5.heap[k]? := by
    intro k g1 g2
    have g3 : k ≠ w.heap.size + 1 := by omega
    rw [Below.heap_alloc _ _ _ (by simpa using g2), Below.heap_setCell _ _ _ _ g3, Below.heap_setCell _ _ _ _ g3, Below.heap_setCell _ _ _ _ g3, Below.heap_setCell _ _ _ _ g3, Below.heap_setCell _ _ _ _ g3]
  exact ⟨_, _, _, _, _, _, _, _, _, rfl, s2.keep (Nat.zero_le _) (by simp) hk, s3.keep (Nat.zero_le _) (by simp) hk, s4.keep (Nat.zero_le _) (by simp) hk, by (repeat (first | with_reducible exact Below.refl _ _ | with_reducible assumption | with_reducible refine below_alloc ?_ _ | ((with_reducible refine Below.setCell ?_ ?_ _); rotate_left; (· first | exact Nat.le_refl _ | (simp; done) | (simp; omega))) | with_reducible refine below_drewN ?_ _ | with_reducible refine Below.drew ?_ | with_reducible refine below_then ?_ (by with_reducible assumption)))⟩
end Go.Proofs.Ytkedpaopnnhinaa

/- LowerFunc: both contracts as the law takes them. -/
set_option linter.unusedVariables false
set_option linter.unusedSimpArgs false
namespace Go.Proofs.Ytkedpaopnnhinaa
open Go.RowKit
theorem lowC_sz (fs : List Func) (v : Int) : (lowC fs v).2.2.1.length + (lowC fs v).2.2.2.1.length + (lowC fs v).2.2.2.2.length ≤ 1000 := by
  have h1 := lowC_len fs v
  by_cases h : lowVB fs v = true
  · have h0 := h
    unfold lowVB at h
    rw [Bool.and_eq_true] at h
    have h2 := inB_iff.1 h.2
    obtain ⟨j, rfl⟩ := Int.eq_ofNat_of_zero_le (show 0 ≤ v by omega)
    have hj : j < fs.length := by omega
    rw [lowC_at h0 hj] at h1 ⊢
    have h3 := ((goodP_low h.1).2 _ (List.getElem_mem hj)).sites
    have h4 : (lowF fs[j]).2.2.1.length ≤ 4 := by unfold lowF; simpa using h3
    have h5 : (lowF fs[j]).2.2.2.2.length ≤ 5 := by unfold lowF padR; simp; omega
    omega
  · rw [lowC_no (by simpa using h)]; simp
theorem own_of1 {α : Type} {R : Rp α} {w : World} {e : TypeId} {F : List Nat} {A : Option Addr} {n c : Nat} {l : List α} (h : (sliceR e R).own w F [.slice A n c] l) : OwnSl R w e F (.slice A n c) l := by
  obtain ⟨A', n', c', e1, h⟩ := h
  simp only [List.cons.injEq, Value.slice.injEq, and_true] at e1
  obtain ⟨rfl, rfl, rfl⟩ := e1
  exact h
def RetRS (x0 x1 : Int) (s2 : List Int) (s3 : List Ins) (s4 : List Row) (b : Bool) (w : World) (e : Ending) (w' : World) : Prop :=
  ∃ A2 n2 c2 A3 n3 c3 A4 n4 c4, e = .returned (.tuple #[.agg #[.int .i64 x0, .int .i64 x1, .slice A2 n2 c2, .slice A3 n3 c3, .slice A4 n4 c4], .bool b]) ∧ Sl intR w' 0 w'.heap.size A2 n2 c2 s2 ∧ Sl InsR w' 0 w'.heap.size A3 n3 c3 s3 ∧ Sl RowR w' 0 w'.heap.size A4 n4 c4 s4 ∧ Below w.heap.size w w'
def RetRO (x0 x1 : Int) (s2 : List Int) (s3 : List Ins) (s4 : List Row) (b : Bool) (w : World) (e : Ending) (w' : World) : Prop :=
  ∃ A2 n2 c2 A3 n3 c3 A4 n4 c4 F2 F3 F4, e = .returned (.tuple #[.agg #[.int .i64 x0, .int .i64 x1, .slice A2 n2 c2, .slice A3 n3 c3, .slice A4 n4 c4], .bool b]) ∧ OwnSl intR w' 3 F2 (.slice A2 n2 c2) s2 ∧ OwnSl InsR w' 190 F3 (.slice A3 n3 c3) s3 ∧ OwnSl RowR w' 196 F4 (.slice A4 n4 c4) s4 ∧
    (F2 ++ (F3 ++ F4)).Nodup ∧ (∀ k, k ∈ F2 ++ (F3 ++ F4) → w.heap.size ≤ k) ∧ Below w.heap.size w w'
theorem specLowerFuncC (w : World) (A : Option Addr) (n c : Nat) (fs : List Func) (v : Int) (h : Sl FuncR w 0 w.heap.size A n c fs) (hm : mszLFunc fs ≤ 1048576) (_ : I64 v) (x0 x1 : Int) (s2 : List Int) (s3 : List Ins) (s4 : List Row) (hz : lowC fs v = (x0, x1, s2, s3, s4)) (b : Bool) (hb : lowVB fs v = b) :
    Calls Try.prog 57 #[.agg #[.slice A n c], .int .i64 v] w (RetRS x0 x1 s2 s3 s4 b w) := by
  subst hb
  have := specLowerFunc w 0 _ A n c fs v h (Nat.le_refl _) hm
  rw [hz] at this
  exact this
theorem implLowerFuncC (w : World) (A : Option Addr) (n c : Nat) (fs : List Func) (v : Int) (h : Sl FuncR w 0 w.heap.size A n c fs) (hm : mszLFunc fs ≤ 1048576) (_ : I64 v) (x0 x1 : Int) (s2 : List Int) (s3 : List Ins) (s4 : List Row) (hz : lowC fs v = (x0, x1, s2, s3, s4)) (b : Bool) (hb : lowVB fs v = b) :
    Calls Try.prog 59 #[.agg #[.slice A n c], .int .i64 v] w (RetRO x0 x1 s2 s3 s4 b w) := by
  subst hb
  have := implLowerFunc2 w 0 _ A n c fs v h (Nat.le_refl _) hm
  rw [hz] at this
  exact this
end Go.Proofs.Ytkedpaopnnhinaa
