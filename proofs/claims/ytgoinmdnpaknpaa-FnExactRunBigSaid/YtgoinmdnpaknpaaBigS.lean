/- Programs done with fuel: a statement. The program's walk. -/
import Derived.Test.YtgoinmdnpaknpaaBigI
import Derived.Test.YtgoinmdnpaknpaaRegCut
import Derived.Deep.LoopGhost
set_option linter.unusedVariables false
set_option linter.unusedSimpArgs false
set_option maxRecDepth 100000
namespace Go.Proofs.Ytgoinmdnpaknpaa
open Go.RowKit
attribute [local irreducible] wpList
theorem big_zero {C : BCfg} {g : Nat} {f : Func} {s : Stmt} {deep : Nat} {fr : BFr} {st : BSt} (h : st.fuel = 0) : (big C g).2 f s deep fr st = ((5, 0), fr, st) := by
  cases g with
  | zero => rfl
  | succ g => show bStmt C (big C g).1 (big C g).2 f s deep fr st = _; unfold bStmt; rw [if_pos h]
theorem big_succ {C : BCfg} {g : Nat} {f : Func} {s : Stmt} {deep : Nat} {fr : BFr} {st : BSt} (h : st.fuel ≠ 0) : (big C (g + 1)).2 f s deep fr st = if s.1 = 3 then ((0, 0), { fr with off := fr.off ++ [s.2.1] }, { st with fuel := st.fuel - 1 }) else if s.1 = 6 then ((3, 0), fr, { st with fuel := st.fuel - 1 }) else
    (if (bExpr C (big C g).1 deep s.2.2.1 [] fr { st with fuel := st.fuel - 1 }).2.1.1 = 0 then bStmtE (big C g).2 f s deep (bExpr C (big C g).1 deep s.2.2.1 [] fr { st with fuel := st.fuel - 1 }).1 (bExpr C (big C g).1 deep s.2.2.1 [] fr { st with fuel := st.fuel - 1 }).2.2.1 (bExpr C (big C g).1 deep s.2.2.1 [] fr { st with fuel := st.fuel - 1 }).2.2.2 else (bExpr C (big C g).1 deep s.2.2.1 [] fr { st with fuel := st.fuel - 1 }).2) := by
  show bStmt C (big C g).1 (big C g).2 f s deep fr st = _; unfold bStmt; rw [if_neg h]
section
variable {M : MCfg} {C : BCfg} {B c fn : Nat} {y : Option Nat} {w w' : World} {Ft Fv Fo : List Nat} {vt vv vo : Value} {deep : Nat} {fr : BFr} {st : BSt}
/-- Fuel has been taken. -/
theorem PreSt.burn (h : PreSt M C B c fn y w Ft Fv Fo vt vv vo deep fr st) {q : Nat} (hq : st.fuel = q + 1) (hr : RunB M C.most w' deep 0 vt q st.used) (hf : Fr [M.R] w w') : PreSt M C B c fn y w' Ft Fv Fo vt vv vo deep fr { st with fuel := q } := by
  obtain ⟨p1, p2, p3, p4, p5, p6, p7, p8, p9, p10⟩ := h.sep.parts
  have hs := h.sok.burn (by omega)
  rw [hq, Nat.add_sub_cancel] at hs
  have nin : ∀ {F : List Nat}, M.R ∉ F → ∀ k, k ∈ F → k ∉ [M.R] := fun hn k hk hk2 => hn (by rw [← List.mem_singleton.1 hk2]; exact hk)
  exact ⟨h.ctx.fr hf (fun k hk => by rw [List.mem_singleton.1 hk]; exact h.sep.ge _ (List.mem_cons_self ..)), ⟨hr, h.m.tr.fr hf (nin p1)⟩, h.f.fr hf (by simpa using fun e => p2 e.symm) (nin p3) (nin p4), h.by_.up (ByUp.fr h.by_ hf (fun k hk hk2 => (p10 k hk).1 (List.mem_singleton.1 hk2))), h.sep, h.fnl, hs.more (by omega), h.fok.less (by simp only; omega), h.deep⟩
end
theorem PreSt.upR {M : MCfg} {C : BCfg} {B c fn : Nat} {y : Option Nat} {w w' : World} {Ft Fv Fo : List Nat} {vt vv vo : Value} {deep : Nat} {fr : BFr} {st : BSt} (h : PreSt M C B c fn y w Ft Fv Fo vt vv vo deep fr st) (hf : Fr [M.R] w w') : ByUp w w' y fr.by_ fr.by_ :=
  ByUp.fr h.by_ hf (fun k hk hk2 => (h.sep.parts.2.2.2.2.2.2.2.2.2 k hk).1 (List.mem_singleton.1 hk2))
/-- There is no fuel. -/
theorem PreSt.stop {M : MCfg} {C : BCfg} {B c fn : Nat} {y : Option Nat} {w w' : World} {Ft Fv Fo : List Nat} {vt vv vo : Value} {deep : Nat} {fr : BFr} {st : BSt} (h : PreSt M C B c fn y w Ft Fv Fo vt vv vo deep fr st) (h0 : st.fuel = 0) (hr : RunB M C.most w' deep 5 vt 0 st.used) (hf : Fr [M.R] w w') :
    RetSt M C B c fn y fr.by_ w Ft Fv Fo vv deep ((5, 0), fr, st) (.returned (.tuple #[.int .i64 4, .int .i64 0])) w' := by
  obtain ⟨p1, p2, p3, p4, p5, p6, p7, p8, p9, p10⟩ := h.sep.parts
  have nin : ∀ {F : List Nat}, M.R ∉ F → ∀ k, k ∈ F → k ∉ [M.R] := fun hn k hk hk2 => hn (by rw [← List.mem_singleton.1 hk2]; exact hk)
  exact ⟨0, deep, 5, vt, vo, Ft, Fo, rfl, by unfold I64; omega, Lib.hid (by simp), Lib.hid ⟨h0 ▸ hr, h.m.tr.fr hf (nin p1)⟩, Lib.hid (h.f.fr hf (by simpa using fun e => p2 e.symm) (nin p3) (nin p4)), Lib.hid (h.upR hf), Lib.hid ⟨fun h => by simp at h, fun _ => rfl⟩,
    Lib.hid (hf.more (fun k hk => by rw [List.mem_singleton.1 hk]; exact List.mem_cons_self ..)), Lib.hid (fun k hk => Or.inl hk), Lib.hid h.sep⟩
theorem RetSt.ofPre {M : MCfg} {C : BCfg} {B c fn : Nat} {y : Option Nat} {b : Option BEnd} {w w' : World} {Ft Fv Fo Ft' Fo' : List Nat} {vt' vv vo' : Value} {deep : Nat} {fr' : BFr} {st' : BSt} {how v n : Int} (h : PreSt M C B c fn y w' Ft' Fv Fo' vt' vv vo' deep fr' st') (hh : how < 4) (hn : I64 n) (hv : how = 2 → n = v)
    (hfr : Fr (GB M Ft c Fv Fo y) w w') (hin : ∀ k, k ∈ GB M Ft' c Fv Fo' y → k ∈ GB M Ft c Fv Fo y ∨ w.heap.size ≤ k) (hby : ByUp w w' y b fr'.by_) : RetSt M C B c fn y b w Ft Fv Fo vv deep ((how, v), fr', st') (.returned (.tuple #[.int .i64 how, .int .i64 n])) w' :=
  ⟨n, deep, 0, vt', vo', Ft', Fo', by unfold cut4; rw [if_neg (by simp only; omega)], hn, Lib.hid hv, Lib.hid h.m, Lib.hid h.f, Lib.hid hby, Lib.hid ⟨fun _ => ⟨rfl, rfl⟩, fun h => by simp only at h; omega⟩, Lib.hid hfr, Lib.hid hin, Lib.hid h.sep⟩
theorem Fr.one {c i : Nat} (w : World) (v : Value) : Fr [c] w (w.setCell ⟨c, i, none⟩ v) := Fr.setCell (p := ⟨c, i, none⟩) (Fr.refl _ _) (List.mem_singleton.2 rfl) _
theorem not_one {F : List Nat} {c : Nat} (hn : c ∉ F) : ∀ k, k ∈ F → k ∉ [c] := fun k hk hk2 => hn (by rw [← List.mem_singleton.1 hk2]; exact hk)
/-- The result is set. -/
theorem PreSt.setRes {M : MCfg} {C : BCfg} {B c fn : Nat} {y : Option Nat} {w : World} {Ft Fv Fo : List Nat} {vt vv vo : Value} {deep : Nat} {fr : BFr} {st : BSt} (h : PreSt M C B c fn y w Ft Fv Fo vt vv vo deep fr st) {n : Int} (hn : I32 n) :
    PreSt M C B c fn y (w.setCell ⟨c, 2, none⟩ (.int .i64 n)) Ft Fv Fo vt vv vo deep { fr with res := n } st ∧ Fr [c] w (w.setCell ⟨c, 2, none⟩ (.int .i64 n)) ∧ ByUp w (w.setCell ⟨c, 2, none⟩ (.int .i64 n)) y fr.by_ fr.by_ := by
  obtain ⟨p1, p2, p3, p4, p5, p6, p7, p8, p9, p10⟩ := h.sep.parts
  have hf : Fr [c] w (w.setCell ⟨c, 2, none⟩ (.int .i64 n)) := Fr.one w _
  have hb := ByUp.fr h.by_ hf (fun k hk hk2 => (p10 k hk).2.1 (List.mem_singleton.1 hk2))
  exact ⟨⟨h.ctx.fr hf (fun k hk => by rw [List.mem_singleton.1 hk]; exact h.sep.ge _ (by unfold GB; simp)), h.m.fr hf (by simpa using p2) (not_one p5), ⟨h.f.cl.putRes n, h.f.vars.fr hf (not_one p6), h.f.off.fr hf (not_one p7)⟩, h.by_.up hb, h.sep, h.fnl, h.sok, ⟨h.fok.vars, h.fok.small, h.fok.long, h.fok.off, hn, h.fok.by_⟩, h.deep⟩, hf, hb⟩
/-- A variable is set. -/
theorem PreSt.setVar {M : MCfg} {C : BCfg} {B c fn : Nat} {y : Option Nat} {w : World} {Ft Fv Fo : List Nat} {vt vv vo : Value} {deep : Nat} {fr : BFr} {st : BSt} (h : PreSt M C B c fn y w Ft Fv Fo vt vv vo deep fr st) {n : Int} {g j : Nat} (hn : I32 n) (hg : g ∈ Fv) (hs : OwnSl intR (w.setCell ⟨g, j, none⟩ (.int .i64 n)) 3 Fv vv (fr.vars.set j n)) :
    PreSt M C B c fn y (w.setCell ⟨g, j, none⟩ (.int .i64 n)) Ft Fv Fo vt vv vo deep { fr with vars := fr.vars.set j n } st ∧ Fr [g] w (w.setCell ⟨g, j, none⟩ (.int .i64 n)) ∧ ByUp w (w.setCell ⟨g, j, none⟩ (.int .i64 n)) y fr.by_ fr.by_ := by
  obtain ⟨p1, p2, p3, p4, p5, p6, p7, p8, p9, p10⟩ := h.sep.parts
  have hf : Fr [g] w (w.setCell ⟨g, j, none⟩ (.int .i64 n)) := Fr.one w _
  have hb := ByUp.fr h.by_ hf (fun k hk hk2 => (p10 k hk).2.2.2.1 (by rw [List.mem_singleton.1 hk2]; exact hg))
  refine ⟨⟨h.ctx.fr hf (fun k hk => by rw [List.mem_singleton.1 hk]; exact h.sep.ge _ (by unfold GB; simp [hg])), h.m.fr hf (fun hk => p3 (by rw [List.mem_singleton.1 hk]; exact hg)) (not_one (fun hk => (p8 g hk).1 hg)), ⟨h.f.cl.fr hf (fun hk => p6 (by rw [List.mem_singleton.1 hk]; exact hg)), hs, h.f.off.fr hf (not_one (p9 g hg))⟩, h.by_.up hb, h.sep, h.fnl, h.sok, ⟨by rw [List.length_set]; exact h.fok.vars, fun k hk => ?_, h.fok.long, h.fok.off, h.fok.res, h.fok.by_⟩, h.deep⟩, hf, hb⟩
  rcases List.mem_or_eq_of_mem_set hk with hk | rfl
  · exact h.fok.small k hk
  · exact hn
theorem PreSt.lt {M : MCfg} {C : BCfg} {B c fn : Nat} {y : Option Nat} {w : World} {Ft Fv Fo : List Nat} {vt vv vo : Value} {deep : Nat} {fr : BFr} {st : BSt} (hp : PreSt M C B c fn y w Ft Fv Fo vt vv vo deep fr st) : ∀ k, k ∈ GB M Ft c Fv Fo y → k < w.heap.size := fun k hk => by
  unfold GB at hk
  simp only [List.mem_cons, List.mem_append, Option.mem_toList] at hk
  rcases hk with rfl | hk | rfl | hk | hk | hk
  · exact blk_size hp.m.run
  · exact hp.m.tr.lt k hk
  · exact blk_size hp.f.cl
  · exact hp.f.vars.lt k hk
  · exact hp.f.off.lt k hk
  · exact hp.by_.lt k hk
/-- A call more is put off. -/
theorem PreSt.setOff {M : MCfg} {C : BCfg} {B c fn : Nat} {y : Option Nat} {w w8 : World} {Ft Fv Fo F8 : List Nat} {vt vv vo v8 : Value} {deep : Nat} {fr : BFr} {st : BSt} (h : PreSt M C B c fn y w Ft Fv Fo vt vv vo deep fr st) {g : Int} (h8 : OwnSl intR w8 3 F8 v8 (fr.off ++ [g])) (hf0 : Fr vo.ownBlock.toList w w8) (hF : ∀ k, k ∈ F8 → k ∈ Fo ∨ k = w.heap.size)
    (hfr : FrOk C (C.fn fn).2.1 { fr with off := fr.off ++ [g] } st.fuel) :
    PreSt M C B c fn y (w8.setCell ⟨c, 3, none⟩ v8) Ft Fv F8 vt vv v8 deep { fr with off := fr.off ++ [g] } st ∧ Fr (GB M Ft c Fv Fo y) w (w8.setCell ⟨c, 3, none⟩ v8) ∧ ByUp w (w8.setCell ⟨c, 3, none⟩ v8) y fr.by_ fr.by_ ∧ (∀ k, k ∈ GB M Ft c Fv F8 y → k ∈ GB M Ft c Fv Fo y ∨ w.heap.size ≤ k) := by
  obtain ⟨p1, p2, p3, p4, p5, p6, p7, p8, p9, p10⟩ := h.sep.parts
  have hlt := h.lt
  have hf : Fr Fo w w8 := hf0.more (fun k hk => h.f.off.ownB k (by simpa using hk))
  have h9 : Fr [c] w8 (w8.setCell ⟨c, 3, none⟩ v8) := Fr.one w8 _
  have hw : Fr (GB M Ft c Fv Fo y) w (w8.setCell ⟨c, 3, none⟩ v8) := Fr.trans (hf.more (fun k hk => by unfold GB; simp [hk])) (h9.more (fun k hk => by rw [List.mem_singleton.1 hk]; unfold GB; simp))
  have hcl : c < w.heap.size := blk_size h.f.cl
  have hc8 : c ∉ F8 := fun hk => by rcases hF c hk with h1 | h1; exact p7 h1; omega
  have hb : ByUp w (w8.setCell ⟨c, 3, none⟩ v8) y fr.by_ fr.by_ := (ByUp.fr h.by_ hf (fun k hk => (p10 k hk).2.2.2.2)).trans (ByUp.fr (h.by_.up (ByUp.fr h.by_ hf (fun k hk => (p10 k hk).2.2.2.2))) h9 (fun k hk hk2 => (p10 k hk).2.1 (List.mem_singleton.1 hk2)))
  have hB := h.ctx.le
  refine ⟨⟨h.ctx.fr hw h.sep.ge, (h.m.fr hf p4 (fun k hk => (p8 k hk).2)).fr h9 (by simpa using p2) (not_one p5), ⟨(h.f.cl.fr hf p7).putOff v8, (h.f.vars.fr hf p9).fr h9 (not_one p6), h8.fr h9 (not_one hc8)⟩, h.by_.up hb,
    h.sep.grow (N := w.heap.size) (ownB_nd h.m.tr) (ownB_nd h.f.vars) (ownB_nd h8) (fun k hk => Or.inl hk) (fun k hk => (hF k hk).imp id (fun e => by omega)) (fun k hk hk2 => by have := h.m.tr.lt k hk; omega) hlt hB, h.fnl, h.sok, hfr, h.deep⟩, hw, hb, fun k hk => ?_⟩
  unfold GB at hk ⊢
  simp only [List.mem_cons, List.mem_append] at hk ⊢
  rcases hk with h1 | h1 | h1 | h1 | h1 | h1
  · exact Or.inl (Or.inl h1)
  · exact Or.inl (Or.inr (Or.inl h1))
  · exact Or.inl (Or.inr (Or.inr (Or.inl h1)))
  · exact Or.inl (Or.inr (Or.inr (Or.inr (Or.inl h1))))
  · rcases hF k h1 with h2 | h2
    · exact Or.inl (Or.inr (Or.inr (Or.inr (Or.inr (Or.inl h2)))))
    · exact Or.inr (by omega)
  · exact Or.inl (Or.inr (Or.inr (Or.inr (Or.inr (Or.inr h1)))))
/-- The trace has grown. -/
theorem PreSt.setTr {M : MCfg} {C : BCfg} {B c fn : Nat} {y : Option Nat} {w w8 : World} {Ft Fv Fo F8 : List Nat} {vt vv vo v8 : Value} {deep : Nat} {fr : BFr} {st : BSt} (h : PreSt M C B c fn y w Ft Fv Fo vt vv vo deep fr st) {g : Int} (h8 : OwnSl intR w8 3 F8 v8 (st.tr ++ [g])) (hf0 : Fr vt.ownBlock.toList w w8) (hF : ∀ k, k ∈ F8 → k ∈ Ft ∨ k = w.heap.size)
    (hst : StOk C 600 { st with tr := st.tr ++ [g] }) :
    PreSt M C B c fn y (w8.setCell ⟨M.R, 7, none⟩ v8) F8 Fv Fo v8 vv vo deep fr { st with tr := st.tr ++ [g] } ∧ Fr (GB M Ft c Fv Fo y) w (w8.setCell ⟨M.R, 7, none⟩ v8) ∧ ByUp w (w8.setCell ⟨M.R, 7, none⟩ v8) y fr.by_ fr.by_ ∧ (∀ k, k ∈ GB M F8 c Fv Fo y → k ∈ GB M Ft c Fv Fo y ∨ w.heap.size ≤ k) := by
  obtain ⟨p1, p2, p3, p4, p5, p6, p7, p8, p9, p10⟩ := h.sep.parts
  have hlt := h.lt
  have hf : Fr Ft w w8 := hf0.more (fun k hk => h.m.tr.ownB k (by simpa using hk))
  have h9 : Fr [M.R] w8 (w8.setCell ⟨M.R, 7, none⟩ v8) := Fr.one w8 _
  have hw : Fr (GB M Ft c Fv Fo y) w (w8.setCell ⟨M.R, 7, none⟩ v8) := Fr.trans (hf.more (fun k hk => by unfold GB; simp [hk])) (h9.more (fun k hk => by rw [List.mem_singleton.1 hk]; unfold GB; simp))
  have hcl : M.R < w.heap.size := blk_size h.m.run
  have hc8 : M.R ∉ F8 := fun hk => by rcases hF M.R hk with h1 | h1; exact p1 h1; omega
  have hv : ∀ k, k ∈ Fv → k ∉ Ft := fun k hk h => (p8 k h).1 hk
  have ho : ∀ k, k ∈ Fo → k ∉ Ft := fun k hk h => (p8 k h).2 hk
  have hb : ByUp w (w8.setCell ⟨M.R, 7, none⟩ v8) y fr.by_ fr.by_ := (ByUp.fr h.by_ hf (fun k hk => (p10 k hk).2.2.1)).trans (ByUp.fr (h.by_.up (ByUp.fr h.by_ hf (fun k hk => (p10 k hk).2.2.1))) h9 (fun k hk hk2 => (p10 k hk).1 (List.mem_singleton.1 hk2)))
  have hB := h.ctx.le
  refine ⟨⟨h.ctx.fr hw h.sep.ge, ⟨(h.m.run.fr hf p1).putTr v8, h8.fr h9 (not_one hc8)⟩, (h.f.fr hf p5 hv ho).fr h9 (by simpa using fun e => p2 e.symm) (not_one p3) (not_one p4), h.by_.up hb,
    h.sep.grow (N := w.heap.size) (ownB_nd h8) (ownB_nd h.f.vars) (ownB_nd h.f.off) (fun k hk => (hF k hk).imp id (fun e => by omega)) (fun k hk => Or.inl hk) (fun k hk hk2 hk3 => by have := h.f.off.lt k hk3; omega) hlt hB, h.fnl, hst, h.fok, h.deep⟩, hw, hb, fun k hk => ?_⟩
  unfold GB at hk ⊢
  simp only [List.mem_cons, List.mem_append] at hk ⊢
  rcases hk with h1 | h1 | h1
  · exact Or.inl (Or.inl h1)
  · rcases hF k h1 with h2 | h2
    · exact Or.inl (Or.inr (Or.inl h2))
    · exact Or.inr (by omega)
  · exact Or.inl (Or.inr (Or.inr h1))
theorem fr_atX {w w' : World} {F : List Nat} {b : Nat} {x : Obj} (hf : Fr F w w') (hn : b ∉ F) (h : w.heap[b]? = some x) : w'.heap[b]? = some x := (hf.block b (blk_size h) hn).trans h
set_option maxHeartbeats 8000000 in
theorem implStmt {M : MCfg} {C : BCfg} {N : Nat} (G : CfgG C) (hN : N ≤ 600) (hE : ∀ L, L < N → ExprI M C L) (hBl : ∀ L, L < N → BlockI M C L) : StmtI M C N := by
  intro B c fn y w Ft Fv Fo vt vv vo deep fr st x0 x1 A2 A3 A4 n2 c2 n3 c3 n4 c4 s hpre hfu hmem hx0 hx1 i0 i1 g2 g3 g4
  unfold ExprI at hE
  unfold BlockI at hBl
  have HE := Lib.hid hE
  have HBl := Lib.hid hBl
  obtain ⟨s0, s1, ts, th, el⟩ := s
  simp only at hx0 hx1
  subst hx0 hx1
  have SG := Lib.hid ((G.funcs _ (fn_mem hpre.fnl).1).stmts _ hmem)
  have hbu : ∀ V, Below w.heap.size w V → Hid (PreSt M C B c fn y V Ft Fv Fo vt vv vo deep fr st) := fun V hV => Lib.hid (hpre.keep hV)
  have HPRE := Lib.hid hpre
  have HBU := Lib.hid hbu
  have G2 := Lib.hid g2
  have G3 := Lib.hid g3
  have G4 := Lib.hid g4
  have GG := Lib.hid G
  have hk := SG.out.kind
  simp only at hk
  obtain ⟨r, hr⟩ : ∃ r, (big C N).2 (C.fn fn) (s0, s1, ts, th, el) deep fr st = r := ⟨_, rfl⟩
  have HR := Lib.hid hr
  rw [hr]
  clear hpre hbu hE hBl G hmem hr g2 g3 g4
  go_enter Try.func112, Try.ntmps112
  go_wp2_with fail
  obtain ⟨W, hW⟩ : ∃ W, W = w.alloc (.cells #[.int .i64 s0, .int .i64 s1, .slice A2 n2 c2, .slice A3 n3 c3, .slice A4 n4 c4] 120) := ⟨_, rfl⟩
  obtain ⟨X, hX⟩ : ∃ X, w.heap.size = X := ⟨_, rfl⟩
  have hbW : Below w.heap.size w W := by rw [hW]; exact belA
  have HBX := Lib.hid (show W.heap[X]? = some (.cells #[.int .i64 s0, .int .i64 s1, .slice A2 n2 c2, .slice A3 n3 c3, .slice A4 n4 c4] 120) from by rw [hW]; exact alloc_new' hX)
  have hXW : W.heap.size = X + 1 := by rw [hW, ← hX]; simp
  have HPW := HBU.out W hbW
  have HSB := Lib.hid (show ∀ k, k ∈ GB M Ft c Fv Fo y → k < X from fun k hk => by
    have hp := HPRE.out
    unfold GB at hk
    simp only [List.mem_cons, List.mem_append, Option.mem_toList] at hk
    rcases hk with rfl | hk | rfl | hk | hk | hk
    · rw [← hX]; exact blk_size hp.m.run
    · rw [← hX]; exact hp.m.tr.lt k hk
    · rw [← hX]; exact blk_size hp.f.cl
    · rw [← hX]; exact hp.f.vars.lt k hk
    · rw [← hX]; exact hp.f.off.lt k hk
    · rw [← hX]; exact hp.by_.lt k hk)
  have HWX := Lib.hid hXW
  have hwX := Lib.hid hX
  have HbW := Lib.hid hbW
  have HBy0 := Lib.hid (ByUp.refl HPW.out.by_)
  rw [← hW, hX]
  clear hW hX HBU hbW hXW
  go_loopg [8] N (fun gk v wr => ∃ (Ft1 Fo1 : List Nat) (vt1 vo1 : Value) (fr1 : BFr) (st1 : BSt), Hid (PreSt M C B c fn y wr Ft1 Fv Fo1 vt1 vv vo1 deep fr1 st1) ∧ st1.fuel ≤ gk ∧ gk ≤ N ∧ Hid (Fr (GB M Ft c Fv Fo y) W wr) ∧ Hid (∀ k, k ∈ GB M Ft1 c Fv Fo1 y → k ∈ GB M Ft c Fv Fo y ∨ X < k) ∧ Hid (ByUp W wr y fr.by_ fr1.by_) ∧ Hid ((big C gk).2 (C.fn fn) (s0, s1, ts, th, el) deep fr1 st1 = r))
  case atStart => exact ⟨Ft, Fo, vt, vo, fr, st, HPW, hfu, Nat.le_refl _, Lib.hid (Fr.refl _ _), Lib.hid (fun k hk => Or.inl hk), HBy0, HR⟩
  case round =>
    clear HR HPW HBy0 hfu
    obtain ⟨Ft1, Fo1, vt1, vo1, fr1, st1, HP, hfu, hgk, HFR, HIN, HBY, HR⟩ := hrel
    have hXin : X ∉ GB M Ft c Fv Fo y := fun h => by have := HSB.out X h; omega
    have hbx := Lib.hid (fr_atX HFR.out hXin HBX.out)
    -- out of what this world gives: what the whole gives
    have HOUT := Lib.hid (show ∀ (e : Ending) (w' : World), RetSt M C B c fn y fr1.by_ wr Ft1 Fv Fo1 vv deep r e w' → RetSt M C B c fn y fr.by_ w Ft Fv Fo vv deep r e w' from fun e w' h => by
      have hF0 : Fr (GB M Ft c Fv Fo y) w W := Fr.of_below HbW.out
      refine RetSt.behind (FrR.trans hF0 HFR.out (fun k hk => Or.inl hk)) (fun k hk => by rcases HIN.out k hk with h | h; exact Or.inl h; exact Or.inr (by rw [hwX.out]; omega)) ((ByUp.fr HPRE.out.by_ (Fr.of_below (F := []) HbW.out) (by simp)).trans HBY.out) h)
    clear hXin
    go_wp2_with fail
    by_cases h0 : st1.fuel = 0
    · have hr : ((5, 0), fr1, st1) = r := by rw [← HR.out]; exact (big_zero h0).symm
      have HRE := Lib.hid hr
      have hrun : RunB M C.most wr deep 0 vt1 0 st1.used := h0 ▸ HP.out.m.run
      refine (implBurn0 M C.most wr deep 0 vt1 st1.used hrun).mono ?_
      rintro e w2 ⟨rfl, hR2, hf2⟩
      have HR2 := Lib.hid hR2
      have H0 := Lib.hid h0
      clear hrun hR2 h0 hr
      have HF2 := Lib.hid hf2
      go_wp2_with fail
      refine bodyPost_ret (v := .tuple #[.int .i64 4, .int .i64 0]) (by simp [results, Try.results112, go_sem]) rfl ?_
      refine HOUT.out _ _ ?_
      rw [← HRE.out]
      exact HP.out.stop H0.out HR2.out HF2.out
    obtain ⟨q, hq⟩ : ∃ q, st1.fuel = q + 1 := ⟨st1.fuel - 1, by omega⟩
    obtain ⟨L, rfl⟩ : ∃ L, gk = L + 1 := ⟨gk - 1, by omega⟩
    have hLN : L < N := by omega
    have hqL : q ≤ L := by omega
    have HQ := Lib.hid hq
    have hrun : RunB M C.most wr deep 0 vt1 (q + 1) st1.used := hq ▸ HP.out.m.run
    have hq6 : q ≤ 600 := by omega
    clear hq h0 hfu
    refine (implBurn1 M C.most wr deep 0 vt1 q st1.used hrun hq6).mono ?_
    rintro e w2 ⟨rfl, hR2, hf2⟩
    have HP2 := Lib.hid (HP.out.burn HQ.out hR2 hf2)
    have hRg : ∀ k, k ∈ [M.R] → k ∈ GB M Ft1 c Fv Fo1 y := fun k hk => by rw [List.mem_singleton.1 hk]; exact List.mem_cons_self ..
    have HF2 := Lib.hid (hf2.more hRg)
    have HFR2 := Lib.hid hf2
    have HU2 := Lib.hid (HP.out.upR hf2)
    clear hrun hR2 hf2 hRg
    have hRb : Fr [M.R] wr w2 := Fr.trans (Fr.refl _ _) (by exact HFR2.out)
    obtain ⟨q0, q1, q2, q3, q4⟩ : w2.cell? ⟨X, 0, none⟩ = some (.int .i64 s0) ∧ w2.cell? ⟨X, 1, none⟩ = some (.int .i64 s1) ∧ w2.cell? ⟨X, 2, none⟩ = some (.slice A2 n2 c2) ∧ w2.cell? ⟨X, 3, none⟩ = some (.slice A3 n3 c3) ∧ w2.cell? ⟨X, 4, none⟩ = some (.slice A4 n4 c4) := by
      have hX2 := fr_atX hRb (by have := HSB.out M.R (List.mem_cons_self ..); simp; omega) hbx.out
      exact ⟨by rw [cell_of_row _ _ _ _ _ _ hX2]; rfl, by rw [cell_of_row _ _ _ _ _ _ hX2]; rfl, by rw [cell_of_row _ _ _ _ _ _ hX2]; rfl, by rw [cell_of_row _ _ _ _ _ _ hX2]; rfl, by rw [cell_of_row _ _ _ _ _ _ hX2]; rfl⟩
    clear hRb
    have hRS := Lib.hid (show (if s0 = 3 then ((0, 0), { fr1 with off := fr1.off ++ [s1] }, { st1 with fuel := q }) else if s0 = 6 then ((3, 0), fr1, { st1 with fuel := q }) else
      (if (bExpr C (big C L).1 deep ts [] fr1 { st1 with fuel := q }).2.1.1 = 0 then bStmtE (big C L).2 (C.fn fn) (s0, s1, ts, th, el) deep (bExpr C (big C L).1 deep ts [] fr1 { st1 with fuel := q }).1 (bExpr C (big C L).1 deep ts [] fr1 { st1 with fuel := q }).2.2.1 (bExpr C (big C L).1 deep ts [] fr1 { st1 with fuel := q }).2.2.2 else (bExpr C (big C L).1 deep ts [] fr1 { st1 with fuel := q }).2)) = r from by
      have h9 := HR.out
      rw [big_succ (by rw [HQ.out]; omega), HQ.out, Nat.add_sub_cancel] at h9
      exact h9)
    have HSPr := Lib.hid (show StmtP C 600 (C.fn fn).2.1 st1 fr1 r from by rw [← HR.out]; exact (big_ok GG.out (L + 1) (by omega)).2 600 _ _ deep fr1 st1 (fn_mem HP.out.fnl).1 SG.out HP.out.fok HP.out.sok (by rw [HQ.out]; omega))
    clear HR
    by_cases k6 : s0 = 6
    · subst k6
      have HRE := Lib.hid (show ((3, 0), fr1, { st1 with fuel := q }) = r from by have := hRS.out; rw [if_neg (by decide), if_pos rfl] at this; exact this)
      clear hRS hk
      go_wp2_with fail
      refine bodyPost_ret (v := .tuple #[.int .i64 3, .int .i64 0]) (by simp [results, Try.results112, go_sem]) rfl ?_
      refine HOUT.out _ _ ?_
      rw [← HRE.out]
      exact RetSt.ofPre HP2.out (by omega) (by unfold I64; omega) (by omega) HF2.out (fun k hk => Or.inl hk) HU2.out
    have hkp := Lib.hid (show ∀ j, 0 ≤ j → j < B → w2.heap[j]? = w.heap[j]? from fun j _ hj => by
      have hg : ∀ {F : List Nat}, (∀ k, k ∈ F → B ≤ k) → j ∉ F := fun h hk => by have := h j hk; omega
      have hle := HPRE.out.ctx.le
      have hbs := HbW.out.size
      rw [HFR2.out.block j (by have := HFR.out.size; omega) (hg (fun k hk => by rw [List.mem_singleton.1 hk]; exact HP.out.sep.ge _ (List.mem_cons_self ..))), HFR.out.block j (by omega) (hg HPRE.out.sep.ge), HbW.out.block j (by omega)])
    by_cases k3 : s0 = 3
    · subst k3
      have HRX := Lib.hid (show ((0, 0), { fr1 with off := fr1.off ++ [s1] }, { st1 with fuel := q }) = r from by have := hRS.out; rw [if_pos rfl] at this; exact this)
      obtain ⟨Ao, no, co, rfl, hno⟩ := HP2.out.f.off.form
      clear hno
      have c3 := HP2.out.f.cl.cell 3
      have hcw := blk_size HP2.out.f.cl
      have hXw : X < w2.heap.size := World.block_lt_of_cell? w2 _ q1
      have hS := Lib.hid (show ∀ V, Below w2.heap.size w2 V → V.cell? ⟨c, 3, none⟩ = some (.slice Ao no co) ∧ V.cell? ⟨X, 1, none⟩ = some (.int .i64 s1) from fun V hV => ⟨below_cell hV c3, below_cell hV q1⟩)
      have hol : fr1.off.length ≤ 600 := by have := HP.out.fok.long; omega
      clear hRS hk
      go_upto_region 5 with fail
      refine wp_region_noPanic ?_
      refine wp_region_cut (S := (fun V => V.cell? ⟨c, 3, none⟩ = some (.slice Ao no co) ∧ V.cell? ⟨X, 1, none⟩ = some (.int .i64 s1))) 11 (by kernel_rfl) (by kernel_rfl) (hS.out _ (by exact beloA)) (fun hR0 => ?_)
      simp only [headOps, List.take_succ_cons, List.take_zero]
      refine takeH 0 ?_
      refine takeH 1 ?_
      refine takeH 2 ?_
      refine takeH 3 ?_
      refine takeH 4 ?_
      refine takeH 5 ?_
      refine takeH 6 ?_
      refine wpAnyH_ready (rs := [7]) (by kernel_rfl) (by simp) ?_
      refine AllReadyH.cons (i := 7) rfl (fun K hK => ?_) AllReadyH.nil
      go_simp
      refine hK.out _ _ (hS.out _ (show Below w2.heap.size w2 _ by exact beloA)) (fun hR6 => ?_)
      clear hK K
      try simp only [Act.put, List.getElem_toArray, List.getElem_cons_zero, List.getElem_cons_succ, List.setIfInBounds_toArray, List.set_cons_zero, List.set_cons_succ]
      refine wpAnyH_ready (rs := [8]) (by kernel_rfl) (by simp) ?_
      refine AllReadyH.cons (i := 8) rfl (fun K hK => ?_) AllReadyH.nil
      have bd : Below w2.heap.size w2 ((w2.alloc (.cells #[.int .i64 s1] 3)).drew) := by exact beloA
      have HPd := Lib.hid (HP2.out.keep bd)
      refine step_intB (by rfl) _ _ (by rfl) (.slice Ao no co) fr1.off.length fr1.off Fo1 (by rfl) rfl (HP2.out.f.off.below bd) w2.heap.size s1 3 (by rfl) (alloc_new' rfl) i1 (by omega) ?_
      intro A8 n8 c8 w8 F8 HO8 fr8 HF8
      have HPn := Lib.hid (HPd.out.setOff HO8.out fr8 HF8.out (by have := HSPr.out.fok; rw [← HRX.out] at this; exact this))
      have hnc : c ∉ (Value.slice Ao no co).ownBlock.toList := fun hk => HP2.out.sep.parts.2.2.2.2.2.2.1 (HP2.out.f.off.ownB c (by simpa using hk))
      have hXo : X ∉ (Value.slice Ao no co).ownBlock.toList := fun hk => by
        have h9 := HP2.out.f.off.ownB X (by simpa using hk)
        rcases HIN.out X (by unfold GB; simp [h9]) with h1 | h1
        · have := HSB.out X h1; omega
        · omega
      have c38 := cell_fr fr8 hnc (hS.out _ bd).1
      have q18 := cell_fr fr8 hXo (hS.out _ bd).2
      have z38 : w8.frozen? ⟨c, 3, none⟩ = false := blk_frozen (HPd.out.f.cl.fr fr8 hnc) 3
      have hcw8 : c < w8.heap.size := by have := fr8.size; have := bd.size; omega
      refine hK.out _ _ ⟨c38, q18⟩ (fun hR8 => ?_)
      clear hK K
      try simp only [Act.put, List.getElem_toArray, List.getElem_cons_zero, List.getElem_cons_succ, List.setIfInBounds_toArray, List.set_cons_zero, List.set_cons_succ]
      refine takeH 9 ?_
      refine takeH 10 ?_
      refine wpAnyH_done (by kernel_rfl) ?_ _
      refine lastQ_op rfl (fun K hK => ?_)
      rw [if_pos (by rfl)]
      go_simp
      refine hK _ _ ?_
      clear hK K
      refine NoPanic.normal ?_
      obtain ⟨m1, m2, m3, m4⟩ := HPn.out
      have S7a := Lib.hid m1
      have S7b := Lib.hid (FrR.trans (FrR.trans HF2.out (Fr.of_below (F := []) bd) (by simp)) m2 (fun k hk => Or.inl hk))
      have S7c := Lib.hid ((HU2.out.trans (ByUp.fr HP2.out.by_ (Fr.of_below (F := []) bd) (by simp))).trans m3)
      have S7d := Lib.hid (show ∀ k, k ∈ GB M Ft1 c Fv F8 y → k ∈ GB M Ft1 c Fv Fo1 y ∨ wr.heap.size ≤ k from fun k hk => by
        rcases m4 k hk with h1 | h1
        · exact Or.inl h1
        · exact Or.inr (by have := HF2.out.size; have := bd.size; omega))
      clear m1 m2 m3 m4 hR0 hR6 hR8 c38 q18 z38 c3 q0 q1 q2 q3 q4 bd fr8 hnc hXo HPn
      go_wp2_with fail
      refine bodyPost_ret (v := .tuple #[.int .i64 0, .int .i64 0]) (by simp [results, Try.results112, go_sem]) rfl ?_
      refine HOUT.out _ _ ?_
      rw [← HRX.out]
      exact RetSt.ofPre S7a.out (by omega) (by unfold I64; omega) (by omega) S7b.out S7d.out S7c.out
    obtain ⟨rE, hrE⟩ : ∃ rE, bExpr C (big C L).1 deep ts [] fr1 { st1 with fuel := q } = rE := ⟨_, rfl⟩
    have HRE := Lib.hid hrE
    have HRS := Lib.hid (show (if rE.2.1.1 = 0 then bStmtE (big C L).2 (C.fn fn) (s0, s1, ts, th, el) deep rE.1 rE.2.2.1 rE.2.2.2 else rE.2) = r from by have := hRS.out; rw [if_neg k3, if_neg k6, hrE] at this; exact this)
    have hex := SG.out.ex k3 k6
    simp only at hex
    have HEX := Lib.hid hex
    have hk3 : (s0 == 3) = false := by simpa using k3
    have hk6 : (s0 == 6) = false := by simpa using k6
    clear hRS hrE hex
    go_wp2_with fail
    refine (HE.out L hLN B c fn y w2 Ft1 Fv Fo1 vt1 vv vo1 deep fr1 { st1 with fuel := q } A2 n2 c2 ts HP2.out hqL HEX.out.1 HEX.out.2 (G2.out.keep (Nat.le_refl _) (Nat.le_refl _) hkp.out)).mono ?_
    rw [HRE.out]
    rintro e w3 ⟨n, deep', code', vt', Ft', rfl, inn, HV, HM, HFs, HB3, HD, HFR3, HIN3, HSEP3⟩
    obtain ⟨h4, hh4⟩ : ∃ h4, cut4 rE.2.1.1 = h4 := ⟨_, rfl⟩
    rw [hh4]
    have HH4 := Lib.hid hh4
    clear hh4
    have HFw := Lib.hid (FrR.trans HF2.out HFR3.out (fun k hk => Or.inl hk))
    have HINw := Lib.hid (show ∀ j, j ∈ GB M Ft' c Fv Fo1 y → j ∈ GB M Ft1 c Fv Fo1 y ∨ wr.heap.size ≤ j from fun j hj => by
      rcases HIN3.out j hj with h | h
      · exact Or.inl h
      · exact Or.inr (Nat.le_trans HF2.out.size h))
    have HBw := Lib.hid (HU2.out.trans HB3.out)
    obtain ⟨EP⟩ : Nonempty (Hid (ExprP C 600 (C.fn fn).2.1 { st1 with fuel := q } fr1 rE)) := ⟨Lib.hid (by
      rw [← HRE.out]
      exact expr_ok GG.out (big_ok GG.out L (by omega)).1 ts HEX.out.2 (fun n hn => by cases hn) HP2.out.fok HP2.out.sok hqL)⟩
    clear HF2 HFR3 HIN3 HU2 HB3
    by_cases he0 : rE.2.1.1 = 0
    rotate_left
    · have hr : rE.2 = r := by have := HRS.out; rw [if_neg he0] at this; exact this
      have hh4 : (h4 != 0) = true := by
        have h9 := HH4.out
        have h8 := EP.out.how.1
        unfold cut4 at h9
        refine bne_iff_ne.2 (fun hz => ?_)
        split at h9 <;> omega
      have HRX := Lib.hid hr
      clear he0 hr HRS q0 q1 q2 q3 q4
      go_wp2_with fail
      refine bodyPost_ret (v := .tuple #[.int .i64 h4, .int .i64 n]) (by simp [results, Try.results112, go_sem]) rfl ?_
      refine HOUT.out _ _ ?_
      rw [← HRX.out]
      exact ⟨n, deep', code', vt', vo1, Ft', Fo1, by rw [HH4.out], inn, Lib.hid HV.out.2, HM, HFs, HBw, HD, HFw, HINw, HSEP3⟩
    have hz : h4 = 0 := by rw [← HH4.out, he0]; rfl
    subst hz
    have hnv : n = rE.1 := HV.out.1 he0
    have HP3 := Lib.hid (show PreSt M C B c fn y w3 Ft' Fv Fo1 vt' vv vo1 deep rE.2.2.1 rE.2.2.2 from by
      obtain ⟨hd1, hd2⟩ := HD.out.1 (by omega)
      subst hd1 hd2
      exact ⟨HP.out.ctx.fr HFw.out HP.out.sep.ge, HM.out, HFs.out, HP.out.by_.up HBw.out, HSEP3.out, HP.out.fnl, EP.out.sok, EP.out.fok, HP.out.deep⟩)
    have HRT := Lib.hid (show bStmtE (big C L).2 (C.fn fn) (s0, s1, ts, th, el) deep n rE.2.2.1 rE.2.2.2 = r from by have := HRS.out; rw [if_pos he0, ← hnv] at this; exact this)
    have HN32 := Lib.hid (show I32 n from hnv ▸ EP.out.val)
    clear he0 hnv HRS HD HM HFs HSEP3 HV
    have hXn : X ∉ GB M Ft1 c Fv Fo1 y := fun h => by
      rcases HIN.out X h with h1 | h1
      · have := HSB.out X h1; omega
      · omega
    have HX3 := Lib.hid (fr_atX HFw.out hXn hbx.out)
    clear q0 q1 q2 q3 q4 hXn hk3 hk6
    obtain ⟨q0, q1, q2, q3, q4⟩ : w3.cell? ⟨X, 0, none⟩ = some (.int .i64 s0) ∧ w3.cell? ⟨X, 1, none⟩ = some (.int .i64 s1) ∧ w3.cell? ⟨X, 2, none⟩ = some (.slice A2 n2 c2) ∧ w3.cell? ⟨X, 3, none⟩ = some (.slice A3 n3 c3) ∧ w3.cell? ⟨X, 4, none⟩ = some (.slice A4 n4 c4) := by
      exact ⟨by rw [cell_of_row _ _ _ _ _ _ HX3.out]; rfl, by rw [cell_of_row _ _ _ _ _ _ HX3.out]; rfl, by rw [cell_of_row _ _ _ _ _ _ HX3.out]; rfl, by rw [cell_of_row _ _ _ _ _ _ HX3.out]; rfl, by rw [cell_of_row _ _ _ _ _ _ HX3.out]; rfl⟩
    have hkp3 := Lib.hid (show ∀ j, 0 ≤ j → j < B → w3.heap[j]? = w.heap[j]? from fun j _ hj => by
      have hg : ∀ {F : List Nat}, (∀ k, k ∈ F → B ≤ k) → j ∉ F := fun h hk => by have := h j hk; omega
      have hle := HPRE.out.ctx.le
      have hbs := HbW.out.size
      rw [HFw.out.block j (by have := HFR.out.size; omega) (hg HP.out.sep.ge), HFR.out.block j (by omega) (hg HPRE.out.sep.ge), HbW.out.block j (by omega)])
    have hkc : s0 = 1 ∨ s0 = 2 ∨ s0 = 4 ∨ s0 = 5 ∨ s0 = 7 ∨ s0 = 8 ∨ s0 = 9 := by omega
    clear hk k3 k6 hkp
    rcases hkc with rfl | rfl | rfl | rfl | rfl | rfl | rfl
    · obtain ⟨hs0, hs1⟩ := SG.out.set_ rfl
      simp only at hs0 hs1
      obtain ⟨j, rfl⟩ := Int.eq_ofNat_of_zero_le hs0
      have hvl := HP3.out.fok.vars
      have hj : j < rE.2.2.1.vars.length := by omega
      obtain ⟨Av, nv, cv, rfl, hnv⟩ := HP3.out.f.vars.form
      obtain ⟨g, rfl, hnl, hgF, hcg, hzg, hgw, hset⟩ := HP3.out.f.vars.setInt (x := n) hj (by have := HN32.out; unfold I32 at this; unfold I64; omega)
      have HRX := Lib.hid (show ((0, 0), { rE.2.2.1 with vars := rE.2.2.1.vars.set j n }, rE.2.2.2) = r from by rw [← HRT.out]; simp [bStmtE])
      obtain ⟨s5a, s5b, s5c⟩ := HP3.out.setVar HN32.out hgF hset
      have S5a := Lib.hid s5a
      have S5b := Lib.hid (FrR.trans HFw.out s5b (fun k hk => by rw [List.mem_singleton.1 hk]; exact Or.inl (by unfold GB; simp [hgF])))
      have S5c := Lib.hid (HBw.out.trans s5c)
      have hfg := s5b
      have c1 := HP3.out.f.cl.cell 1
      have hjn : (j : Int) < (nv : Int) := by omega
      have hgc : c ∉ [g] := by
        have h9 := HP3.out.sep.parts.2.2.2.2.2.1
        intro hk; rw [List.mem_singleton.1 hk] at h9; exact h9 hgF
      have hgX : X ∉ [g] := by
        intro hk
        rcases HIN.out g (by unfold GB; simp [hgF]) with h1 | h1
        · have := HSB.out g h1; rw [List.mem_singleton.1 hk] at this; omega
        · rw [List.mem_singleton.1 hk] at h1; omega
      clear HRT s5a s5b s5c hset hnv hnl hvl hs0 hs1
      go_upto_region 14 with fail
      refine wp_region_noPanic ?_
      refine wp_region_hd (S := (fun V => V.cell? ⟨c, 1, none⟩ = some (.slice (some ⟨g, 0, none⟩) nv cv) ∧ V.cell? ⟨X, 1, none⟩ = some (.int .i64 j))) 9 (by kernel_rfl) (by kernel_rfl) ⟨c1, q1⟩ (fun hR0 => ?_)
      refine takeH 0 ?_
      refine takeH 1 ?_
      refine takeH 2 ?_
      refine takeH 3 ?_
      refine takeH 4 ?_
      refine takeH 5 ?_
      refine takeH 6 ?_
      refine takeH 7 ?_
      refine wpAnyH_ready (rs := [8]) (by kernel_rfl) (by simp) ?_
      refine AllReadyH.cons (i := 8) rfl (fun K hK => ?_) AllReadyH.nil
      go_simp
      have hfd : Fr [g] w3 ((w3.setCell ⟨g, j, none⟩ (.int .i64 n)).drew) := by exact frcA
      refine hK.out _ _ ⟨cell_fr hfd hgc c1, cell_fr hfd hgX q1⟩ (fun hR8 => ?_)
      clear hK K
      try simp only [Act.put, List.getElem_toArray, List.getElem_cons_zero, List.getElem_cons_succ, List.setIfInBounds_toArray, List.set_cons_zero, List.set_cons_succ]
      refine wpAnyH_done (by kernel_rfl) ?_ _
      refine NoPanic.normal ?_
      have bd : Below (w3.setCell ⟨g, j, none⟩ (.int .i64 n)).heap.size (w3.setCell ⟨g, j, none⟩ (.int .i64 n)) (w3.setCell ⟨g, j, none⟩ (.int .i64 n)).drew := by exact belA
      have S6a := Lib.hid (S5a.out.keep bd)
      have S6b := Lib.hid (FrR.trans S5b.out (Fr.of_below (F := []) bd) (by simp))
      have S6c := Lib.hid (S5c.out.trans (ByUp.fr S5a.out.by_ (Fr.of_below (F := []) bd) (by simp)))
      clear bd hfd hR0 hR8 c1 hcg hzg hfg
      go_wp2_with fail
      refine bodyPost_ret (v := .tuple #[.int .i64 0, .int .i64 0]) (by simp [results, Try.results112, go_sem]) rfl ?_
      refine HOUT.out _ _ ?_
      rw [← HRX.out]
      exact RetSt.ofPre S6a.out (by omega) (by unfold I64; omega) (by omega) S6b.out HINw.out S6c.out
    · have HRX := Lib.hid (show ((0, 0), rE.2.2.1, { rE.2.2.2 with tr := rE.2.2.2.tr ++ [n] }) = r from by rw [← HRT.out]; simp [bStmtE])
      obtain ⟨inf, hif, iz0, iz1, iz2⟩ := info_parts Try.infoIntB
      have HIF := Lib.hid hif
      have IZ0 := Lib.hid iz0
      have IZ1 := Lib.hid iz1
      have IZ2 := Lib.hid iz2
      obtain ⟨At, nt, ct, rfl, hnt⟩ := HP3.out.m.tr.form
      have i64n : I64 n := by have := HN32.out; unfold I32 at this; unfold I64; omega
      have r7 := HP3.out.m.run.cell 7
      have hRw := blk_size HP3.out.m.run
      have htl : rE.2.2.2.tr.length ≤ 600 := by have := HP3.out.sok.long; omega
      clear HRT hif iz0 iz1 iz2 hnt
      go_wp2_with (at_builtin; refine wpl_own1 _ rfl _ _ 37 rfl intR 3 inf (.int .i64 0) 1 8 Try.underlying37 HIF.out IZ0.out IZ1.out IZ2.out rfl rfl (by decide) (.slice At nt ct) rE.2.2.2.tr.length rE.2.2.2.tr Ft' rfl rfl (HP3.out.m.tr.below (show Below w3.heap.size w3 _ by exact belA)) ⟨w3.heap.size, 0, none⟩ 1 [.int .i64 n] n [] rfl (cells_new _ _ _ (by simp)) ⟨rfl, rfl, i64n⟩ (by intro u hu; simp at hu; subst hu; rfl) (fun j hj => by cases hj) (by omega) (by decide) ?_)
      intro v8 w8 F8 ho8 hgr hF8
      obtain ⟨A8, n8, c8, rfl, h88⟩ := ho8.form
      clear h88
      have bd : Below w3.heap.size w3 (w3.alloc (.cells #[.int .i64 n] 3)) := by exact belA
      have HPd := Lib.hid (HP3.out.keep bd)
      have hF8' : ∀ k, k ∈ F8 → k ∈ Ft' ∨ k = (w3.alloc (.cells #[.int .i64 n] 3)).heap.size := fun k hk => by
        rcases hF8 k hk with h | h
        · exact Or.inl h
        · exact Or.inr (by first | exact h | (rw [h]; simp))
      have HPn := Lib.hid (HPd.out.setTr ho8 (grown_fr hgr) hF8' (by have := HSPr.out.sok; rw [← HRX.out] at this; exact this))
      have hnR : M.R ∉ (Value.slice At nt ct).ownBlock.toList := fun hk => HP3.out.sep.parts.1 (HP3.out.m.tr.ownB _ (by simpa using hk))
      have hr8 := HPd.out.m.run.fr (grown_fr hgr) hnR
      have r78 := hr8.cell 7
      have z78 : w8.frozen? ⟨M.R, 7, none⟩ = false := blk_frozen hr8 7
      have hRw8 := blk_size hr8
      obtain ⟨m1, m2, m3, m4⟩ := HPn.out
      have S7a := Lib.hid m1
      have S7b := Lib.hid (FrR.trans (FrR.trans HFw.out (Fr.of_below (F := []) bd) (by simp)) m2 (fun k hk => HINw.out k hk |>.imp id (fun h => h)))
      have S7c := Lib.hid ((HBw.out.trans (ByUp.fr HP3.out.by_ (Fr.of_below (F := []) bd) (by simp))).trans m3)
      have S7d := Lib.hid (show ∀ k, k ∈ GB M F8 c Fv Fo1 y → k ∈ GB M Ft1 c Fv Fo1 y ∨ wr.heap.size ≤ k from fun k hk => by
        rcases m4 k hk with h1 | h1
        · exact HINw.out k h1
        · exact Or.inr (by have := HFw.out.size; have := bd.size; omega))
      clear m1 m2 m3 m4 ho8 hgr hF8 hF8' bd hnR hr8 HPn r7 q0 q1 q2 q3 q4
      go_wp2_with fail
      refine bodyPost_ret (v := .tuple #[.int .i64 0, .int .i64 0]) (by simp [results, Try.results112, go_sem]) rfl ?_
      refine HOUT.out _ _ ?_
      rw [← HRX.out]
      exact RetSt.ofPre S7a.out (by omega) (by unfold I64; omega) (by omega) S7b.out S7d.out S7c.out
    · have HRX := Lib.hid (show ((2, n), rE.2.2.1, rE.2.2.2) = r from by rw [← HRT.out]; simp [bStmtE])
      clear HRT
      go_wp2_with fail
      refine bodyPost_ret (v := .tuple #[.int .i64 2, .int .i64 n]) (by simp [results, Try.results112, go_sem]) rfl ?_
      refine HOUT.out _ _ ?_
      rw [← HRX.out]
      exact RetSt.ofPre HP3.out (by omega) (by first | exact inn | (unfold I64; omega)) (by omega) HFw.out HINw.out HBw.out
    · have HRX := Lib.hid (show ((1, 0), { rE.2.2.1 with res := n }, rE.2.2.2) = r from by rw [← HRT.out]; simp [bStmtE])
      obtain ⟨s5a, s5b, s5c⟩ := HP3.out.setRes HN32.out
      have S5a := Lib.hid s5a
      have S5b := Lib.hid (FrR.trans HFw.out s5b (fun k hk => by rw [List.mem_singleton.1 hk]; exact Or.inl (by unfold GB; simp)))
      have S5c := Lib.hid (HBw.out.trans s5c)
      have c2 := HP3.out.f.cl.cell 2
      have z2 := blk_frozen HP3.out.f.cl 2
      have hcw := blk_size HP3.out.f.cl
      clear HRT s5a s5b s5c
      go_wp2_with fail
      refine bodyPost_ret (v := .tuple #[.int .i64 1, .int .i64 0]) (by simp [results, Try.results112, go_sem]) rfl ?_
      refine HOUT.out _ _ ?_
      rw [← HRX.out]
      exact RetSt.ofPre S5a.out (by omega) (by unfold I64; omega) (by omega) S5b.out HINw.out S5c.out
    · have fin : ∀ (A : Option Addr) (na ca : Nat) (ns : List Int), (∀ k, k ∈ ns → 0 ≤ k ∧ k < ((C.fn fn).2.2.2.length : Int)) → Sl intR w3 0 B A na ca ns → bBlock (big C L).2 (C.fn fn) deep ns rE.2.2.1 rE.2.2.2 = r → Calls Try.prog 84 #[.pointer (some ⟨M.R, 0, none⟩), .pointer (some ⟨c, 0, none⟩), .slice A na ca] w3 (RetSt M C B c fn y fr1.by_ wr Ft1 Fv Fo1 vv deep r) := fun A na ca ns h1 h2 h3 => by
        refine (HBl.out L hLN B c fn y w3 Ft' Fv Fo1 vt' vv vo1 deep rE.2.2.1 rE.2.2.2 A na ca ns HP3.out (Nat.le_trans EP.out.fuel hqL) h1 h2).mono fun e w' h => ?_
        rw [h3] at h
        exact RetSt.behind HFw.out HINw.out HBw.out h
      have FIN := Lib.hid fin
      clear fin
      by_cases hn0 : n = 0
      · subst hn0
        have HRX := Lib.hid (show bBlock (big C L).2 (C.fn fn) deep el rE.2.2.1 rE.2.2.2 = r from by rw [← HRT.out]; simp [bStmtE])
        go_wp2_with fail
        refine (FIN.out A4 n4 c4 el (fun k hk => SG.out.blocks k (Or.inr hk)) (G4.out.keep (Nat.le_refl _) (Nat.le_refl _) hkp3.out) HRX.out).mono ?_
        rintro e w5 hret
        have HOR := Lib.hid (HOUT.out _ _ hret)
        obtain ⟨n5, _, _, _, _, _, _, rfl, _⟩ := hret
        go_wp2_with fail
        refine bodyPost_ret (v := .tuple #[.int .i64 (cut4 r.1.1), .int .i64 n5]) (by simp [results, Try.results112, go_sem]) rfl ?_
        exact HOR.out
      · have HRX := Lib.hid (show bBlock (big C L).2 (C.fn fn) deep th rE.2.2.1 rE.2.2.2 = r from by rw [← HRT.out]; simp [bStmtE, hn0])
        have hnb : (n != 0) = true := bne_iff_ne.2 hn0
        clear hn0
        go_wp2_with fail
        refine (FIN.out A3 n3 c3 th (fun k hk => SG.out.blocks k (Or.inl hk)) (G3.out.keep (Nat.le_refl _) (Nat.le_refl _) hkp3.out) HRX.out).mono ?_
        rintro e w5 hret
        have HOR := Lib.hid (HOUT.out _ _ hret)
        obtain ⟨n5, _, _, _, _, _, _, rfl, _⟩ := hret
        go_wp2_with fail
        refine bodyPost_ret (v := .tuple #[.int .i64 (cut4 r.1.1), .int .i64 n5]) (by simp [results, Try.results112, go_sem]) rfl ?_
        exact HOR.out
    · by_cases hn0 : n = 0
      · subst hn0
        have HRX := Lib.hid (show ((0, 0), rE.2.2.1, rE.2.2.2) = r from by rw [← HRT.out]; simp [bStmtE])
        clear HRT
        go_wp2_with fail
        refine bodyPost_ret (v := .tuple #[.int .i64 0, .int .i64 0]) (by simp [results, Try.results112, go_sem]) rfl ?_
        refine HOUT.out _ _ ?_
        rw [← HRX.out]
        exact RetSt.ofPre HP3.out (by omega) (by unfold I64; omega) (by omega) HFw.out HINw.out HBw.out
      obtain ⟨rB, hrB⟩ : ∃ rB, bBlock (big C L).2 (C.fn fn) deep th rE.2.2.1 rE.2.2.2 = rB := ⟨_, rfl⟩
      have HRX := Lib.hid (show (if rB.1.1 = 0 then (big C L).2 (C.fn fn) (8, s1, ts, th, el) deep rB.2.1 rB.2.2 else rB) = r from by rw [← HRT.out]; simp [bStmtE, hn0, hrB])
      have HRB := Lib.hid hrB
      have hnb : (n != 0) = true := bne_iff_ne.2 hn0
      have hqE := Nat.le_trans EP.out.fuel hqL
      have BP := Lib.hid (show StmtP C 600 (C.fn fn).2.1 rE.2.2.2 rE.2.2.1 rB from by
        rw [← HRB.out]
        exact block_ok GG.out (big_ok GG.out L (by omega)).2 (fn_mem HP.out.fnl).1 th (fun k hk => SG.out.blocks k (Or.inl hk)) HP3.out.fok HP3.out.sok hqE)
      clear hn0 hrB HRT
      go_wp2_with fail
      refine (HBl.out L hLN B c fn y w3 Ft' Fv Fo1 vt' vv vo1 deep rE.2.2.1 rE.2.2.2 A3 n3 c3 th HP3.out hqE (fun k hk => SG.out.blocks k (Or.inl hk)) (G3.out.keep (Nat.le_refl _) (Nat.le_refl _) hkp3.out)).mono ?_
      rw [HRB.out]
      rintro e w5 hret
      have hrt := Lib.hid (RetSt.behind HFw.out HINw.out HBw.out hret)
      clear hret
      obtain ⟨n5, deep5, code5, vt5, vo5, Ft5, Fo5, he5, in5, HV5, HM5, HFs5, HB5, HD5, HFR5, HIN5, HSEP5⟩ := hrt.out
      subst he5
      obtain ⟨h5, hh5⟩ : ∃ h5, cut4 rB.1.1 = h5 := ⟨_, rfl⟩
      rw [hh5]
      have HH5 := Lib.hid hh5
      clear hh5 hrt
      by_cases hb0 : rB.1.1 = 0
      · have hz5 : h5 = 0 := by rw [← HH5.out, hb0]; rfl
        have HRN := Lib.hid (show (big C L).2 (C.fn fn) (8, s1, ts, th, el) deep rB.2.1 rB.2.2 = r from by have := HRX.out; rw [if_pos hb0] at this; exact this)
        have HP5 := Lib.hid (show PreSt M C B c fn y w5 Ft5 Fv Fo5 vt5 vv vo5 deep rB.2.1 rB.2.2 from by
          obtain ⟨hd1, hd2⟩ := HD5.out.1 (by omega)
          subst hd1 hd2
          exact ⟨HP.out.ctx.fr HFR5.out HP.out.sep.ge, HM5.out, HFs5.out, HP.out.by_.up HB5.out, HSEP5.out, HP.out.fnl, BP.out.sok, BP.out.fok, HP.out.deep⟩)
        have hfL := Nat.le_trans BP.out.fuel hqE
        have HFn := Lib.hid (FrR.trans HFR.out HFR5.out (fun k hk => by rcases HIN.out k hk with h | h; exact Or.inl h; exact Or.inr (by rw [HWX.out]; omega)))
        have HINn := Lib.hid (show ∀ j, j ∈ GB M Ft5 c Fv Fo5 y → j ∈ GB M Ft c Fv Fo y ∨ X < j from fun j hj => by
          rcases HIN5.out j hj with h | h
          · exact HIN.out j h
          · exact Or.inr (by have := HFR.out.size; have := HWX.out; omega))
        have HBn := Lib.hid (HBY.out.trans HB5.out)
        subst hz5
        clear hb0 HRX
        go_wp2_with fail
        go_roundg L
        case measure => omega
        case rel => exact ⟨Ft5, Fo5, vt5, vo5, rB.2.1, rB.2.2, HP5, hfL, by omega, HFn, HINn, HBn, HRN⟩
      · have HRZ := Lib.hid (show rB = r from by have := HRX.out; rw [if_neg hb0] at this; exact this)
        have hh5 : (h5 != 0) = true := by
          have h9 := HH5.out
          have h8 := BP.out.how.1
          unfold cut4 at h9
          refine bne_iff_ne.2 (fun hz => ?_)
          split at h9 <;> omega
        clear hb0 HRX
        go_wp2_with fail
        refine bodyPost_ret (v := .tuple #[.int .i64 h5, .int .i64 n5]) (by simp [results, Try.results112, go_sem]) rfl ?_
        refine HOUT.out _ _ ?_
        rw [← HRZ.out]
        exact ⟨n5, deep5, code5, vt5, vo5, Ft5, Fo5, by rw [HH5.out], in5, HV5, HM5, HFs5, HB5, HD5, HFR5, HIN5, HSEP5⟩
    · have HRX := Lib.hid (show ((0, 0), rE.2.2.1, rE.2.2.2) = r from by rw [← HRT.out]; simp [bStmtE])
      clear HRT
      go_wp2_with fail
      refine bodyPost_ret (v := .tuple #[.int .i64 0, .int .i64 0]) (by simp [results, Try.results112, go_sem]) rfl ?_
      refine HOUT.out _ _ ?_
      rw [← HRX.out]
      exact RetSt.ofPre HP3.out (by omega) (by first | exact inn | (unfold I64; omega)) (by omega) HFw.out HINw.out HBw.out
end Go.Proofs.Ytgoinmdnpaknpaa
