/- Programs done with fuel: the reference's expression under way. Plain lemmas; the walk of an input. -/
import Derived.Test.YtgoinmdnpaknpaaBigNs
import Derived.Test.YtgoinmdnpaknpaaBigE
set_option linter.unusedVariables false
set_option linter.unusedSimpArgs false
set_option maxRecDepth 100000
namespace Go.Proofs.Ytgoinmdnpaknpaa
open Go.RowKit
attribute [local irreducible] wpList
theorem specInput (M : MCfg) (C : BCfg) (w : World) (vt : Value) (Ft : List Nat) (st : BSt) (B : Nat) (hm : MtS M C w vt Ft st) (hc : Ctx M C B w) (hRB : B ≤ M.R) (hu : st.used ≤ C.ins.length) (hl : C.ins.length ≤ 10) :
    Calls Try.prog 130 #[.pointer (some ⟨M.R, 0, none⟩)] w (fun e w' => if st.used < C.ins.length then ∃ x, C.ins.getD st.used 0 = x ∧ I64 x ∧ e = .returned (.int .i64 x) ∧ RunS M C.most w' vt st.fuel (st.used + 1) ∧ Fr [M.R] w w' else e = .returned (.int .i64 0) ∧ Below w.heap.size w w') := by
  have hni := hc.ins.lenEq
  have HM := Lib.hid hm
  have r2 := hm.run.cell 2
  have z2 := blk_frozen hm.run 2
  have hR := blk_size hm.run
  by_cases hlt : st.used < C.ins.length
  · simp only [if_pos hlt]
    obtain ⟨bi, oi, hA, _, hbi, hci, ig⟩ := hc.ins.int_at (k := st.used) (by omega)
    have r1 : w.cell? ⟨M.R, 1, none⟩ = some (.slice (some ⟨bi, oi, none⟩) M.ni M.ci) := by rw [← hA]; exact hm.run.cell 1
    have hne : ((st.used : Int) == (M.ni : Int)) = false := beq_eq_false_iff_ne.2 (by omega)
    have hui : (st.used : Int) < (M.ni : Int) := by omega
    obtain ⟨x, hx⟩ : ∃ x, C.ins[st.used] = x := ⟨_, rfl⟩
    rw [hx] at hci ig
    have HX := Lib.hid (show C.ins.getD st.used 0 = x from by rw [← hx]; simp [List.getD_eq_getElem?_getD, hlt])
    have hw1 : IntKind.i64.wrap ((st.used : Int) + 1) = (st.used : Int) + 1 := IntWalk.i64_in _ (by omega)
    have hw2 : IntKind.i64.wrap ((st.used : Int) + 1 - 1) = (st.used : Int) := by rw [show (st.used : Int) + 1 - 1 = (st.used : Int) by omega]; exact IntWalk.i64_in _ (by omega)
    have hw3 : IntKind.i64.wrap (st.used : Int) = (st.used : Int) := IntWalk.i64_in _ (by omega)
    have hbne : ¬ bi = M.R := by omega
    clear hm hc hA hx hlt hni
    go_enter Try.func130, Try.ntmps130
    go_upto_region 1 with fail
    go_quiet (fail)
    go_upto_region 4 with fail
    obtain ⟨w2, hw⟩ : ∃ w2, w2 = (w.drewN nq).setCell ⟨M.R, 2, none⟩ (.int .i64 ((st.used : Int) + 1)) := ⟨_, rfl⟩
    have hf0 : Fr [] w (w.drewN nq) := Fr.of_below (below_drewN (Below.refl _ _) _)
    have hrn := (HM.out.run.fr hf0 (by simp)).putUsed (st.used + 1)
    have HRN := Lib.hid (show RunS M C.most w2 vt st.fuel (st.used + 1) from by rw [hw]; exact hrn)
    have HFN := Lib.hid (show Fr [M.R] w w2 from by rw [hw]; exact FrR.trans (hf0.more (F' := [M.R]) (by simp)) (Fr.one _ _) (fun k hk => Or.inl hk))
    rw [← hw]
    clear hw hrn hf0 r2 z2 hR
    have s2 : w2.cell? ⟨M.R, 2, none⟩ = some (.int .i64 ((st.used : Int) + 1)) := HRN.out.cell 2
    have s1 := cell_fr HFN.out (by simpa using hbne) hci
    have s0 := HRN.out.cell 1
    rw [show M.Ai = some ⟨bi, oi, none⟩ from by have := HM.out.run.cell 1; rw [r1] at this; simpa using this.symm] at s0
    clear r1 hci
    go_quiet (fail)
    go_wp2_with fail
    go_ret
    refine ⟨x, HX.out, ig, rfl, HRN.out.fr (Fr.of_below (F := []) (below_drewN (Below.refl _ _) _)) (by simp), FrR.trans HFN.out (Fr.of_below (F := []) (below_drewN (Below.refl _ _) _)) (by simp)⟩
  · simp only [if_neg hlt]
    have r1 := hm.run.cell 1
    have hne : ((st.used : Int) == (M.ni : Int)) = true := by rw [show (st.used : Int) = (M.ni : Int) by omega]; simp
    clear hm hc hlt hni
    go_enter Try.func130, Try.ntmps130
    go_upto_region 1 with fail
    go_quiet (fail)
    go_wp2_with fail
    go_ret
    exact ⟨rfl, below_drewN (Below.refl _ _) _⟩
/-- The reference's expression under way. -/
structure ExS (M : MCfg) (C : BCfg) (N B c fn : Nat) (F : FCf) (y : Nat) (w : World) (Ft Fv Fo : List Nat) (vv vo : Value) (deep X : Nat) (r : Int × BRes × BFr × BSt) (wr : World) (Ft1 : List Nat) (vt1 : Value) (fr1 : BFr) (st1 : BSt) (rs : List Tok) (tot pl : List Int) (Fp : List Nat) (pv : Value) : Prop where
  pre : PrS M C B c fn F y wr Ft1 Fv Fo vt1 vv vo deep fr1 st1
  fuel : st1.fuel ≤ N
  fr_ : Fr (GB M Ft c Fv Fo (some y)) w wr
  inn : ∀ k, k ∈ GB M Ft1 c Fv Fo (some y) → k ∈ GB M Ft c Fv Fo (some y) ∨ X < k
  own : OwnSl intR wr 3 Fp pv pl
  sep : ∀ k, k ∈ Fp → X < k ∧ k ∉ GB M Ft1 c Fv Fo (some y)
  small : ∀ x, x ∈ tot → I32 x
  ok : toksOk (C.fn fn).2.1 (paramsF C.p) rs tot.length
  len : tot.length + rs.length ≤ 12
  eq : bExpr C (big C N).1 deep rs tot fr1 st1 = r
  base : B ≤ w.heap.size
  end_ : EndB wr X
  hX : w.heap.size ≤ X
  hXG : X ∉ GB M Ft c Fv Fo (some y)
section
variable {M : MCfg} {C : BCfg} {N B c fn : Nat} {F : FCf} {y : Nat} {w wr w' : World} {Ft Fv Fo Ft1 Ft2 : List Nat} {vv vo : Value} {deep X : Nat} {r : Int × BRes × BFr × BSt} {vt1 vt2 : Value} {fr1 fr2 : BFr} {st1 st2 : BSt} {rs : List Tok} {tot tot' pl pl' : List Int} {Fp Fp' : List Nat} {pv pv' : Value} {t : Tok}
theorem ExS.below (h : ExS M C N B c fn F y w Ft Fv Fo vv vo deep X r wr Ft1 vt1 fr1 st1 rs tot pl Fp pv) (hb : Below wr.heap.size wr w') : ExS M C N B c fn F y w Ft Fv Fo vv vo deep X r w' Ft1 vt1 fr1 st1 rs tot pl Fp pv :=
  ⟨h.pre.keep hb, h.fuel, FrR.trans h.fr_ (Fr.of_below (F := []) hb) (by simp), h.inn, h.own.below hb, h.sep, h.small, h.ok, h.len, h.eq, h.base, below_at hb (blk_size h.end_) h.end_, h.hX, h.hXG⟩
theorem ExS.push {n : Int} (h : ExS M C N B c fn F y w Ft Fv Fo vv vo deep X r wr Ft1 vt1 fr1 st1 rs (pl ++ [n]) pl Fp pv) (ho : OwnSl intR w' 3 Fp' pv' (pl ++ [n])) (hf : Fr pv.ownBlock.toList wr w') (hF : ∀ k, k ∈ Fp' → k ∈ Fp ∨ wr.heap.size ≤ k) :
    ExS M C N B c fn F y w Ft Fv Fo vv vo deep X r w' Ft1 vt1 fr1 st1 rs (pl ++ [n]) (pl ++ [n]) Fp' pv' := by
  have hfp : Fr Fp wr w' := hf.more (fun k hk => h.own.ownB k (by simpa using hk))
  have m1 := h.pre.move hfp (fun k hk => (h.sep k hk).2) (fun k hk => by have := (h.sep k hk).1; have := h.base; have := h.hX; omega)
  have hXr := blk_size h.end_
  refine ⟨m1, h.fuel, FrR.trans h.fr_ hfp (fun k hk => Or.inr (by have := (h.sep k hk).1; have := h.hX; omega)), h.inn, ho, fun k hk => ?_, h.small, h.ok, h.len, h.eq, h.base, fr_atX hfp (fun hk => by have := (h.sep X hk).1; omega) h.end_, h.hX, h.hXG⟩
  rcases hF k hk with h1 | h1
  · exact h.sep k h1
  · exact ⟨by omega, fun h2 => by have := h.pre.lt k h2; omega⟩
theorem ExS.next (G : CfgG C) (hN : N ≤ 600) (h : ExS M C N B c fn F y w Ft Fv Fo vv vo deep X r wr Ft1 vt1 fr1 st1 (t :: rs) tot tot Fp pv) (hb : bTok C (big C N).1 deep t tot fr1 st1 = (tot', (0, 0), fr2, st2)) :
    toksOk (C.fn fn).2.1 (paramsF C.p) rs tot'.length ∧ (∀ x, x ∈ tot' → I32 x) ∧ tot'.length + rs.length ≤ 12 ∧ bExpr C (big C N).1 deep rs tot' fr2 st2 = r ∧ StOk C 600 st2 ∧ FrOk C (C.fn fn).2.1 fr2 st2.fuel ∧ st2.fuel ≤ N := by
  obtain ⟨o1, o2, o3⟩ := h.ok
  have T := tok_ok (K := 600) G (big_ok G N hN).1 (deep := deep) o1 o2 h.small h.pre.fok h.pre.sok h.fuel
  rw [hb] at T
  have hl := T.len rfl
  simp only at hl
  have hn : 0 ≤ needF t (paramsF C.p) := by
    unfold needF
    split
    · rw [List.getD_eq_getElem?_getD]
      cases hg : (paramsF C.p)[t.2.toNat]? with
      | none => simp
      | some x =>
        have := List.mem_of_getElem? hg
        unfold paramsF at this
        obtain ⟨f, hf, rfl⟩ := List.mem_map.1 this
        have := (G.funcs f hf).par
        simp only [Option.getD_some]; omega
    · split <;> omega
  have hlen := h.len
  simp only [List.length_cons] at hlen
  refine ⟨hl ▸ o3, T.pile rfl, by omega, ?_, T.sok, T.fok, Nat.le_trans T.fuel h.fuel⟩
  rw [← h.eq]
  show _ = bExpr C (big C N).1 deep (t :: rs) tot fr1 st1
  rw [bExpr, hb]
  simp
theorem ExS.tok (G : CfgG C) (hN : N ≤ 600) (h : ExS M C N B c fn F y w Ft Fv Fo vv vo deep X r wr Ft1 vt1 fr1 st1 (t :: rs) tot tot Fp pv) (hb : bTok C (big C N).1 deep t tot fr1 st1 = (tot', (0, 0), fr1, st1)) (ho : OwnSl intR wr 3 Fp' pv' pl') (hF : ∀ k, k ∈ Fp' → k ∈ Fp) :
    ExS M C N B c fn F y w Ft Fv Fo vv vo deep X r wr Ft1 vt1 fr1 st1 rs tot' pl' Fp' pv' := by
  obtain ⟨a1, a2, a3, a4, a5, a6, a7⟩ := h.next G hN hb
  exact ⟨h.pre, a7, h.fr_, h.inn, ho, fun k hk => h.sep k (hF k hk), a2, a1, a3, a4, h.base, h.end_, h.hX, h.hXG⟩
theorem ExS.input (G : CfgG C) (hN : N ≤ 600) (h : ExS M C N B c fn F y w Ft Fv Fo vv vo deep X r wr Ft1 vt1 fr1 st1 (t :: rs) tot tot Fp pv) {n : Int} (hb : bTok C (big C N).1 deep t tot fr1 st1 = (tot ++ [n], (0, 0), fr1, { st1 with used := st1.used + 1 })) (hr : RunS M C.most w' vt1 st1.fuel (st1.used + 1)) (hf : Fr [M.R] wr w') :
    ExS M C N B c fn F y w Ft Fv Fo vv vo deep X r w' Ft1 vt1 fr1 { st1 with used := st1.used + 1 } rs (tot ++ [n]) tot Fp pv := by
  obtain ⟨a1, a2, a3, a4, a5, a6, a7⟩ := h.next G hN hb
  obtain ⟨p1, p2, p3, p4, p5, p6, p7, p8, p9, p10⟩ := h.pre.sep.parts
  have hp := h.pre
  have hin : ∀ k, k ∈ [M.R] → k ∈ GB M Ft1 c Fv Fo (some y) := fun k hk => by rw [List.mem_singleton.1 hk]; exact List.mem_cons_self ..
  have hge : ∀ k, k ∈ [M.R] → B ≤ k := fun k hk => hp.sep.ge k (hin k hk)
  exact ⟨⟨hp.ctx.fr hf hge, slB hp.code hp.ctx.le hf hge, ⟨hr, hp.m.tr.fr hf (not_one p1)⟩, hp.f.fr hf (by simpa using fun e => p2 e.symm) (not_one p3) (not_one p4), hp.by_.fr hf (fun hk => (p10 y rfl).1 (List.mem_singleton.1 hk)), hp.sep, hp.fnl, a5, a6, hp.deep⟩, a7, FrR.trans h.fr_ hf (fun k hk => (h.inn k (hin k hk)).imp id (fun h2 => by have := h.hX; omega)), h.inn, h.own.fr hf (fun k hk hk2 => (h.sep k hk).2 (hin k hk2)), h.sep, a2, a1, a3, a4, h.base, fr_atX hf (fun hk => h.hXG (by rw [List.mem_singleton.1 hk]; exact List.mem_cons_self ..)) h.end_, h.hX, h.hXG⟩
theorem ExS.recov (G : CfgG C) (hN : N ≤ 600) (h : ExS M C N B c fn F y w Ft Fv Fo vv vo deep X r wr Ft1 vt1 fr1 st1 (t :: rs) tot tot Fp pv) (ht : t.1 = 10) (hu : ByS w' y (recv fr1.by_).2) (hf : Fr [y] wr w') :
    ExS M C N B c fn F y w Ft Fv Fo vv vo deep X r w' Ft1 vt1 { fr1 with by_ := (recv fr1.by_).2 } st1 rs (tot ++ [(recv fr1.by_).1]) tot Fp pv := by
  obtain ⟨a1, a2, a3, a4, a5, a6, a7⟩ := h.next G hN (show bTok C (big C N).1 deep t tot fr1 st1 = _ from by unfold bTok; rw [if_neg (by omega), if_neg (by omega), if_neg (by omega), if_pos ht])
  obtain ⟨p1, p2, p3, p4, p5, p6, p7, p8, p9, p10⟩ := h.pre.sep.parts
  have hp := h.pre
  have hin : ∀ k, k ∈ [y] → k ∈ GB M Ft1 c Fv Fo (some y) := fun k hk => by rw [List.mem_singleton.1 hk]; unfold GB; simp
  have hge : ∀ k, k ∈ [y] → B ≤ k := fun k hk => hp.sep.ge k (hin k hk)
  obtain ⟨y1, y2, y3, y4, y5⟩ := p10 y rfl
  have hft := hp.f.fr hf (by simpa using fun e => y2 e.symm) (not_one y4) (not_one y5)
  exact ⟨⟨hp.ctx.fr hf hge, slB hp.code hp.ctx.le hf hge, hp.m.fr hf (by simpa using fun e => y1 e.symm) (not_one y3), ⟨hft.cl, hft.vars, hft.off⟩, hu, hp.sep, hp.fnl, a5, a6, hp.deep⟩, a7, FrR.trans h.fr_ hf (fun k hk => (h.inn k (hin k hk)).imp id (fun h2 => by have := h.hX; omega)), h.inn, h.own.fr hf (fun k hk hk2 => (h.sep k hk).2 (hin k hk2)), h.sep, a2, a1, a3, a4, h.base, fr_atX hf (fun hk => h.hXG (by rw [List.mem_singleton.1 hk]; unfold GB; simp)) h.end_, h.hX, h.hXG⟩
/-- What is as it was behind a call made by an expression; z: the block of the ending that was handed on. -/
theorem ExS.called {z : Nat} (h : ExS M C N B c fn F y w Ft Fv Fo vv vo deep X r wr Ft1 vt1 fr1 st1 rs tot pl Fp pv) (hz : X < z ∧ z ∉ GB M Ft1 c Fv Fo (some y) ∧ z ∉ Fp) (hf : Fr (M.R :: (Ft1 ++ [z])) wr w') (hin : ∀ k, k ∈ Ft2 → k ∈ Ft1 ∨ wr.heap.size ≤ k) (hnd : Ft2.Nodup) :
    Ctx M C B w' ∧ Sl StmtR w' 0 B F.As F.ns F.cs (C.fn fn).2.2.2 ∧ FtS w' c F vv vo Fv Fo fr1 deep y ∧ ByS w' y fr1.by_ ∧ Sep M B Ft2 c Fv Fo (some y) ∧ Fr (GB M Ft c Fv Fo (some y)) w w' ∧ (∀ k, k ∈ GB M Ft2 c Fv Fo (some y) → k ∈ GB M Ft c Fv Fo (some y) ∨ X < k) ∧ OwnSl intR w' 3 Fp pv pl ∧ (∀ k, k ∈ Fp → X < k ∧ k ∉ GB M Ft2 c Fv Fo (some y)) ∧ EndB w' X := by
  obtain ⟨p1, p2, p3, p4, p5, p6, p7, p8, p9, p10⟩ := h.pre.sep.parts
  obtain ⟨hz1, hz2, hz3⟩ := hz
  have hp := h.pre
  have hm : ∀ k, k ∈ M.R :: (Ft1 ++ [z]) ↔ k = M.R ∨ k ∈ Ft1 ∨ k = z := fun k => by simp
  have hXr := blk_size h.end_
  have hge : ∀ k, k ∈ M.R :: (Ft1 ++ [z]) → B ≤ k := fun k hk => by
    rcases (hm k).1 hk with rfl | h1 | rfl
    · exact hp.sep.ge _ (List.mem_cons_self ..)
    · exact hp.sep.ge _ (by unfold GB; simp [h1])
    · have := h.base; have := h.hX; omega
  have hzc : z ≠ c := fun e => hz2 (by rw [e]; unfold GB; simp)
  have hgrow : ∀ k, k ∈ GB M Ft2 c Fv Fo (some y) → k ∈ GB M Ft1 c Fv Fo (some y) ∨ wr.heap.size ≤ k := fun k hk => by
    unfold GB at hk ⊢
    simp only [List.mem_cons, List.mem_append] at hk ⊢
    rcases hk with h1 | h1 | h1
    · exact Or.inl (Or.inl h1)
    · rcases hin k h1 with h2 | h2
      · exact Or.inl (Or.inr (Or.inl h2))
      · exact Or.inr h2
    · exact Or.inl (Or.inr (Or.inr h1))
  refine ⟨hp.ctx.fr hf hge, slB hp.code hp.ctx.le hf hge, hp.f.fr hf (fun h2 => ?_) (fun k hk h2 => ?_) (fun k hk h2 => ?_), hp.by_.fr hf (fun h2 => ?_),
    hp.sep.grow (N := wr.heap.size) hnd (ownB_nd hp.f.vars) (ownB_nd hp.f.off) hin (fun k hk => Or.inl hk) (fun k hk hk2 hk3 => by have := hp.f.off.lt k hk3; omega) hp.lt hp.ctx.le, FrR.trans h.fr_ hf (fun k hk => ?_), fun k hk => ?_, h.own.fr hf (fun k hk hk2 => ?_), fun k hk => ⟨(h.sep k hk).1, fun h2 => ?_⟩, fr_atX hf (fun h2 => ?_) h.end_⟩
  · rcases (hm c).1 h2 with h1 | h1 | h1
    · exact p2 h1.symm
    · exact p5 h1
    · exact hzc h1.symm
  · rcases (hm k).1 h2 with h1 | h1 | h1
    · exact p3 (h1 ▸ hk)
    · exact (p8 k h1).1 hk
    · exact hz2 (by rw [← h1]; unfold GB; simp [hk])
  · rcases (hm k).1 h2 with h1 | h1 | h1
    · exact p4 (h1 ▸ hk)
    · exact (p8 k h1).2 hk
    · exact hz2 (by rw [← h1]; unfold GB; simp [hk])
  · rcases (hm y).1 h2 with h1 | h1 | h1
    · exact (p10 y rfl).1 h1
    · exact (p10 y rfl).2.2.1 h1
    · exact hz2 (by rw [← h1]; unfold GB; simp)
  · rcases (hm k).1 hk with rfl | h1 | rfl
    · exact Or.inl (List.mem_cons_self ..)
    · exact (h.inn k (by unfold GB; simp [h1])).imp id (fun h2 => by have := h.hX; omega)
    · exact Or.inr (by have := h.hX; omega)
  · rcases hgrow k hk with h1 | h1
    · exact h.inn k h1
    · exact Or.inr (by omega)
  · rcases (hm k).1 hk2 with h1 | h1 | h1
    · exact (h.sep k hk).2 (by rw [h1]; exact List.mem_cons_self ..)
    · exact (h.sep k hk).2 (by unfold GB; simp [h1])
    · exact hz3 (h1 ▸ hk)
  · rcases hgrow k h2 with h1 | h1
    · exact (h.sep k hk).2 h1
    · have := h.own.lt k hk; omega
  · rcases (hm X).1 h2 with h1 | h1 | h1
    · exact h.hXG (by rw [h1]; exact List.mem_cons_self ..)
    · rcases h.inn X (by unfold GB; simp [h1]) with h3 | h3
      · exact h.hXG h3
      · omega
    · omega
end
/-- Behind a call made by an expression, with the box of its ending. -/
structure AftS (M : MCfg) (C : BCfg) (B c fn : Nat) (F : FCf) (y : Nat) (w : World) (Ft Fv Fo : List Nat) (vv vo : Value) (deep X : Nat) (wx : World) (vt2 : Value) (Ft2 : List Nat) (how : Int) (fr1 : BFr) (st2 : BSt) (pl : List Int) (Fp : List Nat) (pv : Value) (Y : Nat) (nv : Int) : Prop where
  ctx : Ctx M C B wx
  code : Sl StmtR wx 0 B F.As F.ns F.cs (C.fn fn).2.2.2
  m : MwS M C wx vt2 Ft2 how st2
  f : FtS wx c F vv vo Fv Fo fr1 deep y
  by_ : ByS wx y fr1.by_
  sepG : Sep M B Ft2 c Fv Fo (some y)
  fr_ : Fr (GB M Ft c Fv Fo (some y)) w wx
  inn : ∀ k, k ∈ GB M Ft2 c Fv Fo (some y) → k ∈ GB M Ft c Fv Fo (some y) ∨ X < k
  own : OwnSl intR wx 3 Fp pv pl
  sep : ∀ k, k ∈ Fp → X < k ∧ k ∉ GB M Ft2 c Fv Fo (some y)
  end_ : EndB wx X
  c0 : wx.cell? ⟨Y, 0, none⟩ = some (.int .i64 how)
  c1 : wx.cell? ⟨Y, 1, none⟩ = some (.int .i64 nv)
theorem aft_mk {M : MCfg} {C : BCfg} {N B c fn : Nat} {F : FCf} {y : Nat} {w W w5 w7 : World} {Ft Fv Fo Ft1 Ft2 : List Nat} {vv vo : Value} {deep X : Nat} {r : Int × BRes × BFr × BSt} {vt1 vt2 : Value} {fr1 : BFr} {st1 st2 : BSt} {rs : List Tok} {tot pl : List Int} {Fp : List Nat} {pv : Value} {z Y : Nat} {how nv : Int}
    (h : ExS M C N B c fn F y w Ft Fv Fo vv vo deep X r W Ft1 vt1 fr1 st1 rs tot pl Fp pv) (hz : X < z ∧ z ∉ GB M Ft1 c Fv Fo (some y) ∧ z ∉ Fp) (hf : Fr (M.R :: (Ft1 ++ [z])) W w5) (hin : ∀ k, k ∈ Ft2 → k ∈ Ft1 ∨ W.heap.size ≤ k) (hnd : (M.R :: (Ft2 ++ [z])).Nodup) (hm : MwS M C w5 vt2 Ft2 how st2)
    (hf7 : Fr [Y] w5 w7) (hY : X < Y) (hYG : Y ∉ GB M Ft1 c Fv Fo (some y)) (hYF : Y ∉ Fp) (hYn : Y < W.heap.size ∨ w5.heap.size ≤ Y) (c0 : w7.cell? ⟨Y, 0, none⟩ = some (.int .i64 how)) (c1 : w7.cell? ⟨Y, 1, none⟩ = some (.int .i64 nv)) : AftS M C B c fn F y w Ft Fv Fo vv vo deep X w7 vt2 Ft2 how fr1 st2 pl Fp pv Y nv := by
  have hnt : Ft2.Nodup := List.Sublist.nodup (List.sublist_append_left _ _) (List.nodup_cons.1 hnd).2
  obtain ⟨q1, q2, q3, q4, q5, q6, q7, q8, q9, q10⟩ := h.called hz hf hin hnt
  obtain ⟨f, hm1, hm2⟩ := hm
  have hsz := hf.size
  have hY2 : Y ∉ Ft2 := fun hk => by
    rcases hYn with h1 | h1
    · rcases hin Y hk with h2 | h2
      · exact hYG (by unfold GB; simp [h2])
      · omega
    · have := hm1.tr.lt Y hk; omega
  have g : ∀ k, k ∈ GB M Ft2 c Fv Fo (some y) → k ∉ [Y] := fun k hk h2 => by
    rw [List.mem_singleton.1 h2] at hk
    unfold GB at hk hYG
    simp only [List.mem_cons, List.mem_append, not_or] at hk hYG
    rcases hk with h3 | h3 | h3 | h3
    · exact hYG.1 h3
    · exact hY2 h3
    · exact hYG.2.2.1 h3
    · rcases h3 with h3 | h3 | h3
      · exact hYG.2.2.2.1 h3
      · exact hYG.2.2.2.2.1 h3
      · exact hYG.2.2.2.2.2 h3
  have hB : ∀ k, k ∈ [Y] → B ≤ k := fun k hk => by rw [List.mem_singleton.1 hk]; have := h.base; have := h.hX; omega
  exact ⟨q1.fr hf7 hB, slB q2 q1.le hf7 hB, ⟨f, hm1.fr hf7 (g _ (by unfold GB; simp)) (fun k hk => g k (by unfold GB; simp [hk])), hm2⟩, q3.fr hf7 (g _ (by unfold GB; simp)) (fun k hk => g k (by unfold GB; simp [hk])) (fun k hk => g k (by unfold GB; simp [hk])), q4.fr hf7 (g _ (by unfold GB; simp)), q5, FrR.trans q6 hf7 (fun k hk => Or.inr (by rw [List.mem_singleton.1 hk]; have := h.hX; omega)), q7, q8.fr hf7 (fun k hk hk2 => hYF (by rw [← List.mem_singleton.1 hk2]; exact hk)), q9, fr_atX hf7 (by simp; omega) q10, c0, c1⟩
theorem ExS.aft {M : MCfg} {C : BCfg} {N B c fn : Nat} {F : FCf} {y : Nat} {w wr w' : World} {Ft Fv Fo Ft1 Ft2 : List Nat} {vv vo : Value} {deep X : Nat} {r : Int × BRes × BFr × BSt} {vt1 vt2 : Value} {fr1 : BFr} {st1 st2 : BSt} {rs : List Tok} {tot tot' pl : List Int} {Fp Fp' : List Nat} {pv pv' : Value} {t : Tok} {how nv : Int} {Y : Nat} (G : CfgG C) (hN : N ≤ 600)
    (h : ExS M C N B c fn F y w Ft Fv Fo vv vo deep X r wr Ft1 vt1 fr1 st1 (t :: rs) tot tot Fp pv) (hb : bTok C (big C N).1 deep t tot fr1 st1 = (tot', (0, 0), fr1, st2)) (ha : AftS M C B c fn F y w Ft Fv Fo vv vo deep X w' vt2 Ft2 how fr1 st2 pl Fp' pv' Y nv) (h4 : how < 4) : ExS M C N B c fn F y w Ft Fv Fo vv vo deep X r w' Ft2 vt2 fr1 st2 rs tot' pl Fp' pv' := by
  obtain ⟨a1, a2, a3, a4, a5, a6, a7⟩ := h.next G hN hb
  exact ⟨⟨ha.ctx, ha.code, ha.m.go h4, ha.f, ha.by_, ha.sepG, h.pre.fnl, a5, a6, h.pre.deep⟩, a7, ha.fr_, ha.inn, ha.own, ha.sep, a2, a1, a3, a4, h.base, ha.end_, h.hX, h.hXG⟩
theorem ExS.swap {M : MCfg} {C : BCfg} {N B c fn : Nat} {F : FCf} {y : Nat} {w wr : World} {Ft Fv Fo Ft1 : List Nat} {vv vo : Value} {deep X : Nat} {r : Int × BRes × BFr × BSt} {vt1 : Value} {fr1 : BFr} {st1 : BSt} {rs : List Tok} {tot pl pl' : List Int} {Fp Fp' : List Nat} {pv pv' : Value}
    (h : ExS M C N B c fn F y w Ft Fv Fo vv vo deep X r wr Ft1 vt1 fr1 st1 rs tot pl Fp pv) (ho : OwnSl intR wr 3 Fp' pv' pl') (hF : ∀ k, k ∈ Fp' → X < k ∧ k ∉ GB M Ft1 c Fv Fo (some y)) : ExS M C N B c fn F y w Ft Fv Fo vv vo deep X r wr Ft1 vt1 fr1 st1 rs tot pl' Fp' pv' :=
  ⟨h.pre, h.fuel, h.fr_, h.inn, ho, hF, h.small, h.ok, h.len, h.eq, h.base, h.end_, h.hX, h.hXG⟩
end Go.Proofs.Ytgoinmdnpaknpaa
