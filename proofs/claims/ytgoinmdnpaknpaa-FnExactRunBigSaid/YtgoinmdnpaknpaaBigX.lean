/- Programs done with fuel: an expression under way. Plain lemmas. -/
import Derived.Test.YtgoinmdnpaknpaaBigS
import Derived.Test.YtgoinmdnpaknpaaOwnCut
set_option linter.unusedVariables false
set_option linter.unusedSimpArgs false
namespace Go.Proofs.Ytgoinmdnpaknpaa
open Go.RowKit
/-- Blocks that are none of the call's have turned. -/
theorem PreSt.move {M : MCfg} {C : BCfg} {B c fn : Nat} {y : Option Nat} {w w' : World} {Ft Fv Fo : List Nat} {vt vv vo : Value} {deep : Nat} {fr : BFr} {st : BSt} {G : List Nat} (h : PreSt M C B c fn y w Ft Fv Fo vt vv vo deep fr st) (hf : Fr G w w') (hG : ∀ k, k ∈ G → k ∉ GB M Ft c Fv Fo y) (hB : ∀ k, k ∈ G → B ≤ k) : PreSt M C B c fn y w' Ft Fv Fo vt vv vo deep fr st ∧ ByUp w w' y fr.by_ fr.by_ := by
  have n1 : M.R ∉ G := fun h => hG _ h (by unfold GB; simp)
  have n2 : c ∉ G := fun h => hG _ h (by unfold GB; simp)
  have n3 : ∀ k, k ∈ Ft → k ∉ G := fun k hk h => hG _ h (by unfold GB; simp [hk])
  have n4 : ∀ k, k ∈ Fv → k ∉ G := fun k hk h => hG _ h (by unfold GB; simp [hk])
  have n5 : ∀ k, k ∈ Fo → k ∉ G := fun k hk h => hG _ h (by unfold GB; simp [hk])
  have n6 : ∀ k, y = some k → k ∉ G := fun k hk h => hG _ h (by unfold GB; simp [hk])
  have hu := ByUp.fr h.by_ hf n6
  exact ⟨⟨h.ctx.fr hf hB, h.m.fr hf n1 n3, h.f.fr hf n2 n4 n5, h.by_.up hu, h.sep, h.fnl, h.sok, h.fok, h.deep⟩, hu⟩
/-- An expression under way: tokens to come, the pile as it will be, the pile as it lies. -/
structure ExSt (M : MCfg) (C : BCfg) (N B c fn : Nat) (y : Option Nat) (w : World) (Ft Fv Fo : List Nat) (vv vo : Value) (deep : Nat) (fr : BFr) (r : Int × BRes × BFr × BSt) (wr : World) (Ft1 : List Nat) (vt1 : Value) (fr1 : BFr) (st1 : BSt) (rs : List Tok) (tot pl : List Int) (Fp : List Nat) (pv : Value) : Prop where
  pre : PreSt M C B c fn y wr Ft1 Fv Fo vt1 vv vo deep fr1 st1
  fuel : st1.fuel ≤ N
  fr_ : Fr (GB M Ft c Fv Fo y) w wr
  inn : ∀ k, k ∈ GB M Ft1 c Fv Fo y → k ∈ GB M Ft c Fv Fo y ∨ w.heap.size ≤ k
  by_ : ByUp w wr y fr.by_ fr1.by_
  own : OwnSl intR wr 3 Fp pv pl
  sep : ∀ k, k ∈ Fp → w.heap.size ≤ k ∧ k ∉ GB M Ft1 c Fv Fo y
  small : ∀ x, x ∈ tot → I32 x
  ok : toksOk (C.fn fn).2.1 (paramsF C.p) rs tot.length
  len : tot.length + rs.length ≤ 12
  eq : bExpr C (big C N).1 deep rs tot fr1 st1 = r
  base : B ≤ w.heap.size
section
variable {M : MCfg} {C : BCfg} {N B c fn : Nat} {y : Option Nat} {w wr w' : World} {Ft Fv Fo Ft1 Ft2 : List Nat} {vv vo : Value} {deep : Nat} {fr : BFr} {r : Int × BRes × BFr × BSt} {vt1 vt2 : Value} {fr1 fr2 : BFr} {st1 st2 : BSt} {rs : List Tok} {tot tot' pl pl' : List Int} {Fp Fp' : List Nat} {pv pv' : Value} {t : Tok}
theorem ExSt.below (h : ExSt M C N B c fn y w Ft Fv Fo vv vo deep fr r wr Ft1 vt1 fr1 st1 rs tot pl Fp pv) (hb : Below wr.heap.size wr w') : ExSt M C N B c fn y w Ft Fv Fo vv vo deep fr r w' Ft1 vt1 fr1 st1 rs tot pl Fp pv :=
  ⟨h.pre.keep hb, h.fuel, FrR.trans h.fr_ (Fr.of_below (F := []) hb) (by simp), h.inn, h.by_.trans (ByUp.fr h.pre.by_ (Fr.of_below (F := []) hb) (by simp)), h.own.below hb, h.sep, h.small, h.ok, h.len, h.eq, h.base⟩
/-- The number is on the pile. -/
theorem ExSt.push {n : Int} (h : ExSt M C N B c fn y w Ft Fv Fo vv vo deep fr r wr Ft1 vt1 fr1 st1 rs (pl ++ [n]) pl Fp pv) (ho : OwnSl intR w' 3 Fp' pv' (pl ++ [n])) (hf : Fr pv.ownBlock.toList wr w') (hF : ∀ k, k ∈ Fp' → k ∈ Fp ∨ wr.heap.size ≤ k) :
    ExSt M C N B c fn y w Ft Fv Fo vv vo deep fr r w' Ft1 vt1 fr1 st1 rs (pl ++ [n]) (pl ++ [n]) Fp' pv' := by
  have hfp : Fr Fp wr w' := hf.more (fun k hk => h.own.ownB k (by simpa using hk))
  obtain ⟨m1, m2⟩ := h.pre.move hfp (fun k hk => (h.sep k hk).2) (fun k hk => by have := (h.sep k hk).1; have := h.base; omega)
  refine ⟨m1, h.fuel, FrR.trans h.fr_ hfp (fun k hk => Or.inr (h.sep k hk).1), h.inn, h.by_.trans m2, ho, fun k hk => ?_, h.small, h.ok, h.len, h.eq, h.base⟩
  rcases hF k hk with h1 | h1
  · exact h.sep k h1
  · exact ⟨by have := h.fr_.size; omega, fun h2 => by have := h.pre.lt k h2; omega⟩
/-- What a token leaves, in plain words. -/
theorem ExSt.next (G : CfgG C) (hN : N ≤ 600) (h : ExSt M C N B c fn y w Ft Fv Fo vv vo deep fr r wr Ft1 vt1 fr1 st1 (t :: rs) tot tot Fp pv) (hb : bTok C (big C N).1 deep t tot fr1 st1 = (tot', (0, 0), fr2, st2)) :
    toksOk (C.fn fn).2.1 (paramsF C.p) rs tot'.length ∧ (∀ x, x ∈ tot' → I32 x) ∧ tot'.length + rs.length ≤ 12 ∧ bExpr C (big C N).1 deep rs tot' fr2 st2 = r ∧ StOk C 600 st2 ∧ FrOk C (C.fn fn).2.1 fr2 st2.fuel ∧ st2.fuel ≤ N := by
  obtain ⟨o1, o2, o3⟩ := h.ok
  have T := tok_ok (K := 600) G (big_ok G N hN).1 (deep := deep) o1 o2 h.small h.pre.fok h.pre.sok h.fuel
  rw [hb] at T
  have hl := T.len rfl
  simp only at hl
  have hn : 0 ≤ needF t (paramsF C.p) := by
    unfold needF
    split
    · rw [List.getD_eq_getElem?_getD]
      cases hg : (paramsF C.p)[t.2.toNat]? with
      | none => simp
      | some x =>
        have := List.mem_of_getElem? hg
        unfold paramsF at this
        obtain ⟨f, hf, rfl⟩ := List.mem_map.1 this
        have := (G.funcs f hf).par
        simp only [Option.getD_some]; omega
    · split <;> omega
  have hlen := h.len
  simp only [List.length_cons] at hlen
  refine ⟨hl ▸ o3, T.pile rfl, by omega, ?_, T.sok, T.fok, Nat.le_trans T.fuel h.fuel⟩
  rw [← h.eq]
  show _ = bExpr C (big C N).1 deep (t :: rs) tot fr1 st1
  rw [bExpr, hb]
  simp
/-- A number is to be put that only reads the run. -/
theorem ExSt.tok (G : CfgG C) (hN : N ≤ 600) (h : ExSt M C N B c fn y w Ft Fv Fo vv vo deep fr r wr Ft1 vt1 fr1 st1 (t :: rs) tot tot Fp pv) (hb : bTok C (big C N).1 deep t tot fr1 st1 = (tot', (0, 0), fr1, st1)) (ho : OwnSl intR wr 3 Fp' pv' pl') (hF : ∀ k, k ∈ Fp' → k ∈ Fp) :
    ExSt M C N B c fn y w Ft Fv Fo vv vo deep fr r wr Ft1 vt1 fr1 st1 rs tot' pl' Fp' pv' := by
  obtain ⟨a1, a2, a3, a4, a5, a6, a7⟩ := h.next G hN hb
  exact ⟨h.pre, a7, h.fr_, h.inn, h.by_, ho, fun k hk => h.sep k (hF k hk), a2, a1, a3, a4, h.base⟩
/-- An input has been taken. -/
theorem ExSt.input (G : CfgG C) (hN : N ≤ 600) (h : ExSt M C N B c fn y w Ft Fv Fo vv vo deep fr r wr Ft1 vt1 fr1 st1 (t :: rs) tot tot Fp pv) {n : Int} (hb : bTok C (big C N).1 deep t tot fr1 st1 = (tot ++ [n], (0, 0), fr1, { st1 with used := st1.used + 1 })) (hr : RunB M C.most w' deep 0 vt1 st1.fuel (st1.used + 1)) (hf : Fr [M.R] wr w') :
    ExSt M C N B c fn y w Ft Fv Fo vv vo deep fr r w' Ft1 vt1 fr1 { st1 with used := st1.used + 1 } rs (tot ++ [n]) tot Fp pv := by
  obtain ⟨a1, a2, a3, a4, a5, a6, a7⟩ := h.next G hN hb
  obtain ⟨p1, p2, p3, p4, p5, p6, p7, p8, p9, p10⟩ := h.pre.sep.parts
  have hp := h.pre
  have hin : ∀ k, k ∈ [M.R] → k ∈ GB M Ft1 c Fv Fo y := fun k hk => by rw [List.mem_singleton.1 hk]; exact List.mem_cons_self ..
  have hu := hp.upR hf
  refine ⟨⟨hp.ctx.fr hf (fun k hk => hp.sep.ge k (hin k hk)), ⟨hr, hp.m.tr.fr hf (not_one p1)⟩, hp.f.fr hf (by simpa using fun e => p2 e.symm) (not_one p3) (not_one p4), hp.by_.up hu, hp.sep, hp.fnl, a5, a6, hp.deep⟩, a7, FrR.trans h.fr_ hf (fun k hk => h.inn k (hin k hk)), h.inn, h.by_.trans hu, h.own.fr hf (fun k hk hk2 => (h.sep k hk).2 (hin k hk2)), h.sep, a2, a1, a3, a4, h.base⟩
/-- A recover has been done. -/
theorem ExSt.recov (G : CfgG C) (hN : N ≤ 600) (h : ExSt M C N B c fn y w Ft Fv Fo vv vo deep fr r wr Ft1 vt1 fr1 st1 (t :: rs) tot tot Fp pv) (ht : t.1 = 10) (hu : ByUp wr w' y fr1.by_ (recv fr1.by_).2) (hf : Fr y.toList wr w') :
    ExSt M C N B c fn y w Ft Fv Fo vv vo deep fr r w' Ft1 vt1 { fr1 with by_ := (recv fr1.by_).2 } st1 rs (tot ++ [(recv fr1.by_).1]) tot Fp pv := by
  obtain ⟨a1, a2, a3, a4, a5, a6, a7⟩ := h.next G hN (show bTok C (big C N).1 deep t tot fr1 st1 = _ from by unfold bTok; rw [if_neg (by omega), if_neg (by omega), if_neg (by omega), if_pos ht])
  obtain ⟨p1, p2, p3, p4, p5, p6, p7, p8, p9, p10⟩ := h.pre.sep.parts
  have hp := h.pre
  have hin : ∀ k, k ∈ y.toList → k ∈ GB M Ft1 c Fv Fo y := fun k hk => by unfold GB; simp at hk; simp [hk]
  have ny : ∀ {F : List Nat}, (∀ k, y = some k → k ∉ F) → ∀ k, k ∈ F → k ∉ y.toList := fun hn k hk h2 => hn k (by simpa using h2) hk
  refine ⟨⟨hp.ctx.fr hf (fun k hk => hp.sep.ge k (hin k hk)), hp.m.fr hf (fun h2 => (p10 _ (by simpa using h2)).1 rfl) (ny fun k hk => (p10 k hk).2.2.1), hp.f.fr hf (fun h2 => (p10 _ (by simpa using h2)).2.1 rfl) (ny fun k hk => (p10 k hk).2.2.2.1) (ny fun k hk => (p10 k hk).2.2.2.2) |> fun q => ⟨q.cl, q.vars, q.off⟩, hp.by_.up hu, hp.sep, hp.fnl, a5, a6, hp.deep⟩, a7, FrR.trans h.fr_ hf (fun k hk => h.inn k (hin k hk)), h.inn, h.by_.trans hu, h.own.fr hf (fun k hk hk2 => (h.sep k hk).2 (hin k hk2)), h.sep, a2, a1, a3, a4, h.base⟩
/-- What is as it was behind a call made by an expression. -/
theorem ExSt.called (h : ExSt M C N B c fn y w Ft Fv Fo vv vo deep fr r wr Ft1 vt1 fr1 st1 rs tot pl Fp pv) (hf : Fr (M.R :: (Ft1 ++ (none : Option Nat).toList)) wr w') (hin : ∀ k, k ∈ Ft2 → k ∈ Ft1 ∨ wr.heap.size ≤ k) (hnd : (M.R :: (Ft2 ++ (none : Option Nat).toList)).Nodup) :
    Ctx M C B w' ∧ FSt w' c fn vv vo Fv Fo fr1 y ∧ ByIn w' y fr1.by_ ∧ Sep M B Ft2 c Fv Fo y ∧ Fr (GB M Ft c Fv Fo y) w w' ∧ (∀ k, k ∈ GB M Ft2 c Fv Fo y → k ∈ GB M Ft c Fv Fo y ∨ w.heap.size ≤ k) ∧ ByUp w w' y fr.by_ fr1.by_ ∧ OwnSl intR w' 3 Fp pv pl ∧ (∀ k, k ∈ Fp → w.heap.size ≤ k ∧ k ∉ GB M Ft2 c Fv Fo y) := by
  simp only [Option.toList_none, List.append_nil] at hf hnd
  obtain ⟨p1, p2, p3, p4, p5, p6, p7, p8, p9, p10⟩ := h.pre.sep.parts
  have hp := h.pre
  have hG : ∀ k, k ∈ M.R :: Ft1 → k ∈ GB M Ft1 c Fv Fo y := fun k hk => by unfold GB; rcases List.mem_cons.1 hk with rfl | hk <;> simp [*]
  have hnt : Ft2.Nodup := (List.nodup_cons.1 hnd).2
  have hgrow : ∀ k, k ∈ GB M Ft2 c Fv Fo y → k ∈ GB M Ft1 c Fv Fo y ∨ wr.heap.size ≤ k := fun k hk => by
    unfold GB at hk ⊢
    simp only [List.mem_cons, List.mem_append] at hk ⊢
    rcases hk with h1 | h1 | h1
    · exact Or.inl (Or.inl h1)
    · rcases hin k h1 with h2 | h2
      · exact Or.inl (Or.inr (Or.inl h2))
      · exact Or.inr h2
    · exact Or.inl (Or.inr (Or.inr h1))
  have hu : ByUp wr w' y fr1.by_ fr1.by_ := ByUp.fr hp.by_ hf (fun k hk hk2 => by
    rcases List.mem_cons.1 hk2 with h1 | h1
    · exact (p10 k hk).1 h1
    · exact (p10 k hk).2.2.1 h1)
  have hsz := h.fr_.size
  refine ⟨hp.ctx.fr hf (fun k hk => hp.sep.ge k (hG k hk)), hp.f.fr hf (fun h2 => by rcases List.mem_cons.1 h2 with h1 | h1; exact p2 h1.symm; exact p5 h1) (fun k hk h2 => by rcases List.mem_cons.1 h2 with h1 | h1; exact p3 (h1 ▸ hk); exact (p8 k h1).1 hk) (fun k hk h2 => by rcases List.mem_cons.1 h2 with h1 | h1; exact p4 (h1 ▸ hk); exact (p8 k h1).2 hk), hp.by_.up hu,
    hp.sep.grow (N := wr.heap.size) hnt (ownB_nd hp.f.vars) (ownB_nd hp.f.off) hin (fun k hk => Or.inl hk) (fun k hk hk2 hk3 => by have := hp.f.off.lt k hk3; omega) hp.lt hp.ctx.le, FrR.trans h.fr_ hf (fun k hk => h.inn k (hG k hk)), fun k hk => ?_, h.by_.trans hu, h.own.fr hf (fun k hk hk2 => (h.sep k hk).2 (hG k hk2)), fun k hk => ⟨(h.sep k hk).1, fun h2 => ?_⟩⟩
  · rcases hgrow k hk with h1 | h1
    · exact h.inn k h1
    · exact Or.inr (by omega)
  · rcases hgrow k h2 with h1 | h1
    · exact (h.sep k hk).2 h1
    · have := h.own.lt k hk; omega
end
end Go.Proofs.Ytgoinmdnpaknpaa
