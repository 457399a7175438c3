/- Programs done with fuel: what the program's functions promise. Plain. -/
import Derived.Test.YtgoinmdnpaknpaaBigM
set_option linter.unusedVariables false
set_option linter.unusedSimpArgs false
namespace Go.Proofs.Ytgoinmdnpaknpaa
open Go.RowKit
/-- The program and the inputs lie below B, where nothing is changed. -/
structure Ctx (M : MCfg) (C : BCfg) (B : Nat) (w : World) : Prop where
  pg : Sl FuncR w 0 B M.Ap M.np M.cp C.p
  ins : Sl intR w 0 B M.Ai M.ni M.ci C.ins
  le : B ≤ w.heap.size
theorem Ctx.fr {M : MCfg} {C : BCfg} {B : Nat} {w w' : World} {G : List Nat} (h : Ctx M C B w) (hf : Fr G w w') (hG : ∀ k, k ∈ G → B ≤ k) : Ctx M C B w' := by
  have hk : ∀ k, 0 ≤ k → k < B → w'.heap[k]? = w.heap[k]? := fun k _ hk => hf.block k (by have := h.le; omega) (fun hg => by have := hG k hg; omega)
  exact ⟨h.pg.keep (Nat.le_refl _) (Nat.le_refl _) hk, h.ins.keep (Nat.le_refl _) (Nat.le_refl _) hk, Nat.le_trans h.le hf.size⟩
/-- The run. -/
structure MSt (M : MCfg) (C : BCfg) (w : World) (deep code : Int) (vt : Value) (Ft : List Nat) (st : BSt) : Prop where
  run : RunB M C.most w deep code vt st.fuel st.used
  tr : OwnSl intR w 3 Ft vt st.tr
/-- A call under way. -/
structure FSt (w : World) (c fn : Nat) (vv vo : Value) (Fv Fo : List Nat) (fr : BFr) (y : Option Nat) : Prop where
  cl : ClB w c fn vv fr.res vo 0 0 false y
  vars : OwnSl intR w 3 Fv vv fr.vars
  off : OwnSl intR w 3 Fo vo fr.off
/-- All blocks that a call may turn: the run's, the trace's, its own, the one whose ending it may recover. -/
def GB (M : MCfg) (Ft : List Nat) (c : Nat) (Fv Fo : List Nat) (y : Option Nat) : List Nat := M.R :: (Ft ++ (c :: (Fv ++ (Fo ++ y.toList))))
structure Sep (M : MCfg) (B : Nat) (Ft : List Nat) (c : Nat) (Fv Fo : List Nat) (y : Option Nat) : Prop where
  nd : (GB M Ft c Fv Fo y).Nodup
  ge : ∀ k, k ∈ GB M Ft c Fv Fo y → B ≤ k
def cut4 (h : Int) : Int := if 4 ≤ h then 4 else h
/-- What a statement or a block tells. -/
def RetSt (M : MCfg) (C : BCfg) (B : Nat) (c fn : Nat) (y : Option Nat) (b : Option BEnd) (w : World) (Ft Fv Fo : List Nat) (vv : Value) (deep : Int) (r : BRes × BFr × BSt) (e : Ending) (w' : World) : Prop :=
  ∃ (n deep' code' : Int) (vt' vo' : Value) (Ft' Fo' : List Nat), e = .returned (.tuple #[.int .i64 (cut4 r.1.1), .int .i64 n]) ∧ I64 n ∧ Hid (r.1.1 = 2 → n = r.1.2) ∧ Hid (MSt M C w' deep' code' vt' Ft' r.2.2) ∧ Hid (FSt w' c fn vv vo' Fv Fo' r.2.1 y) ∧ Hid (ByUp w w' y b r.2.1.by_) ∧
    Hid ((r.1.1 < 4 → deep' = deep ∧ code' = 0) ∧ (4 ≤ r.1.1 → code' = r.1.1)) ∧ Hid (Fr (GB M Ft c Fv Fo y) w w') ∧ Hid (∀ k, k ∈ GB M Ft' c Fv Fo' y → k ∈ GB M Ft c Fv Fo y ∨ w.heap.size ≤ k) ∧ Hid (Sep M B Ft' c Fv Fo' y)
/-- Before a statement: all that is asked. -/
structure PreSt (M : MCfg) (C : BCfg) (B : Nat) (c fn : Nat) (y : Option Nat) (w : World) (Ft Fv Fo : List Nat) (vt vv vo : Value) (deep : Nat) (fr : BFr) (st : BSt) : Prop where
  ctx : Ctx M C B w
  m : MSt M C w deep 0 vt Ft st
  f : FSt w c fn vv vo Fv Fo fr y
  by_ : ByIn w y fr.by_
  sep : Sep M B Ft c Fv Fo y
  fnl : fn < C.p.length
  sok : StOk C 600 st
  fok : FrOk C (C.fn fn).2.1 fr st.fuel
  deep : 1 ≤ deep ∧ deep ≤ C.most
theorem FrR.trans {G G' : List Nat} {w w1 w2 : World} (h1 : Fr G w w1) (h2 : Fr G' w1 w2) (hG : ∀ k, k ∈ G' → k ∈ G ∨ w.heap.size ≤ k) : Fr G w w2 :=
  ⟨h2.os.trans h1.os, h2.tape.trans h1.tape, h2.output.trans h1.output, Nat.le_trans h1.size h2.size, fun k hk hn => (h2.block k (Nat.lt_of_lt_of_le hk h1.size) (fun hg => by rcases hG k hg with h | h; exact hn h; omega)).trans (h1.block k hk hn)⟩
/-- Behind a statement that goes on: what is asked is so again. -/
theorem RetSt.next {M : MCfg} {C : BCfg} {B : Nat} {c fn : Nat} {y : Option Nat} {w w' : World} {Ft Fv Fo Ft' Fo' : List Nat} {vt vv vo vt' vo' : Value} {deep : Nat} {deep' code' : Int} {fr fr' : BFr} {st st' : BSt} (h : PreSt M C B c fn y w Ft Fv Fo vt vv vo deep fr st)
    (hm : MSt M C w' deep' code' vt' Ft' st') (hf : FSt w' c fn vv vo' Fv Fo' fr' y) (hb : ByUp w w' y fr.by_ fr'.by_) (hd : deep' = (deep : Int) ∧ code' = 0) (hfr : Fr (GB M Ft c Fv Fo y) w w') (hs : Sep M B Ft' c Fv Fo' y)
    (P : StmtP C 600 (C.fn fn).2.1 st fr ((0, 0), fr', st')) : PreSt M C B c fn y w' Ft' Fv Fo' vt' vv vo' deep fr' st' := by
  obtain ⟨rfl, rfl⟩ := hd
  exact ⟨h.ctx.fr hfr h.sep.ge, hm, hf, h.by_.up hb, hs, h.fnl, P.sok, P.fok, h.deep⟩
theorem MSt.fr {M : MCfg} {C : BCfg} {w w' : World} {deep code : Int} {vt : Value} {Ft : List Nat} {st : BSt} {G : List Nat} (h : MSt M C w deep code vt Ft st) (hf : Fr G w w') (h1 : M.R ∉ G) (h2 : ∀ k, k ∈ Ft → k ∉ G) : MSt M C w' deep code vt Ft st := ⟨h.run.fr hf h1, h.tr.fr hf h2⟩
theorem FSt.fr {w w' : World} {c fn : Nat} {vv vo : Value} {Fv Fo : List Nat} {fr : BFr} {y : Option Nat} {G : List Nat} (h : FSt w c fn vv vo Fv Fo fr y) (hf : Fr G w w') (h1 : c ∉ G) (h2 : ∀ k, k ∈ Fv → k ∉ G) (h3 : ∀ k, k ∈ Fo → k ∉ G) : FSt w' c fn vv vo Fv Fo fr y := ⟨h.cl.fr hf h1, h.vars.fr hf h2, h.off.fr hf h3⟩
/-- Nothing of it has turned. -/
theorem PreSt.keep {M : MCfg} {C : BCfg} {B c fn : Nat} {y : Option Nat} {w w' : World} {Ft Fv Fo : List Nat} {vt vv vo : Value} {deep : Nat} {fr : BFr} {st : BSt} (h : PreSt M C B c fn y w Ft Fv Fo vt vv vo deep fr st) (hb : Below w.heap.size w w') : PreSt M C B c fn y w' Ft Fv Fo vt vv vo deep fr st := by
  have hf : Fr [] w w' := Fr.of_below hb
  exact ⟨h.ctx.fr hf (fun k hk => by cases hk), h.m.fr hf (by simp) (by simp), h.f.fr hf (by simp) (by simp) (by simp), h.by_.up (ByUp.fr h.by_ hf (by simp)), h.sep, h.fnl, h.sok, h.fok, h.deep⟩
/-- A part behind another. -/
theorem RetSt.behind {M : MCfg} {C : BCfg} {B : Nat} {c fn : Nat} {y : Option Nat} {b b1 : Option BEnd} {w w1 w' : World} {Ft Fv Fo Ft1 Fo1 : List Nat} {vv : Value} {deep : Int} {r : BRes × BFr × BSt} {e : Ending}
    (hfr : Fr (GB M Ft c Fv Fo y) w w1) (hin : ∀ k, k ∈ GB M Ft1 c Fv Fo1 y → k ∈ GB M Ft c Fv Fo y ∨ w.heap.size ≤ k) (hb : ByUp w w1 y b b1) (h : RetSt M C B c fn y b1 w1 Ft1 Fv Fo1 vv deep r e w') : RetSt M C B c fn y b w Ft Fv Fo vv deep r e w' := by
  obtain ⟨n, deep', code', vt', vo', Ft', Fo', he, hn, h2, h3, h4, h5, h6, h7, h8, h9⟩ := h
  refine ⟨n, deep', code', vt', vo', Ft', Fo', he, hn, h2, h3, h4, Lib.hid (hb.trans h5.out), h6, Lib.hid (FrR.trans hfr h7.out hin), Lib.hid (fun k hk => ?_), h9⟩
  rcases h8.out k hk with h | h
  · exact hin k h
  · exact Or.inr (Nat.le_trans hfr.size h)
/-- What is promised of stmt where there is at most so much fuel. -/
def StmtI (M : MCfg) (C : BCfg) (N : Nat) : Prop := ∀ (B c fn : Nat) (y : Option Nat) (w : World) (Ft Fv Fo : List Nat) (vt vv vo : Value) (deep : Nat) (fr : BFr) (st : BSt) (x0 x1 : Int) (A2 A3 A4 : Option Addr) (n2 c2 n3 c3 n4 c4 : Nat) (s : Stmt),
  PreSt M C B c fn y w Ft Fv Fo vt vv vo deep fr st → st.fuel ≤ N → s ∈ (C.fn fn).2.2.2 → s.1 = x0 → s.2.1 = x1 → I64 x0 → I64 x1 → Sl TokR w 0 B A2 n2 c2 s.2.2.1 → Sl intR w 0 B A3 n3 c3 s.2.2.2.1 → Sl intR w 0 B A4 n4 c4 s.2.2.2.2 →
  Calls Try.prog 112 #[.pointer (some ⟨M.R, 0, none⟩), .pointer (some ⟨c, 0, none⟩), .agg #[.int .i64 x0, .int .i64 x1, .slice A2 n2 c2, .slice A3 n3 c3, .slice A4 n4 c4]] w (RetSt M C B c fn y fr.by_ w Ft Fv Fo vv deep ((big C N).2 (C.fn fn) s deep fr st))
def BlockI (M : MCfg) (C : BCfg) (N : Nat) : Prop := ∀ (B c fn : Nat) (y : Option Nat) (w : World) (Ft Fv Fo : List Nat) (vt vv vo : Value) (deep : Nat) (fr : BFr) (st : BSt) (A : Option Addr) (n cc : Nat) (ns : List Int),
  PreSt M C B c fn y w Ft Fv Fo vt vv vo deep fr st → st.fuel ≤ N → (∀ k, k ∈ ns → 0 ≤ k ∧ k < ((C.fn fn).2.2.2.length : Int)) → Sl intR w 0 B A n cc ns →
  Calls Try.prog 84 #[.pointer (some ⟨M.R, 0, none⟩), .pointer (some ⟨c, 0, none⟩), .slice A n cc] w (RetSt M C B c fn y fr.by_ w Ft Fv Fo vv deep (bBlock (big C N).2 (C.fn fn) deep ns fr st))
/-- What an expression tells. -/
def RetEx (M : MCfg) (C : BCfg) (B : Nat) (c fn : Nat) (y : Option Nat) (b : Option BEnd) (w : World) (Ft Fv Fo : List Nat) (vv vo : Value) (deep : Int) (r : Int × BRes × BFr × BSt) (e : Ending) (w' : World) : Prop :=
  ∃ (n deep' code' : Int) (vt' : Value) (Ft' : List Nat), e = .returned (.tuple #[.int .i64 n, .int .i64 (cut4 r.2.1.1)]) ∧ I64 n ∧ Hid ((r.2.1.1 = 0 → n = r.1) ∧ (r.2.1.1 = 2 → n = r.2.1.2)) ∧ Hid (MSt M C w' deep' code' vt' Ft' r.2.2.2) ∧ Hid (FSt w' c fn vv vo Fv Fo r.2.2.1 y) ∧ Hid (ByUp w w' y b r.2.2.1.by_) ∧
    Hid ((r.2.1.1 < 4 → deep' = deep ∧ code' = 0) ∧ (4 ≤ r.2.1.1 → code' = r.2.1.1)) ∧ Hid (Fr (GB M Ft c Fv Fo y) w w') ∧ Hid (∀ k, k ∈ GB M Ft' c Fv Fo y → k ∈ GB M Ft c Fv Fo y ∨ w.heap.size ≤ k) ∧ Hid (Sep M B Ft' c Fv Fo y)
def ExprI (M : MCfg) (C : BCfg) (N : Nat) : Prop := ∀ (B c fn : Nat) (y : Option Nat) (w : World) (Ft Fv Fo : List Nat) (vt vv vo : Value) (deep : Nat) (fr : BFr) (st : BSt) (A : Option Addr) (n cc : Nat) (ts : List Tok),
  PreSt M C B c fn y w Ft Fv Fo vt vv vo deep fr st → st.fuel ≤ N → ts.length ≤ 12 → toksOk (C.fn fn).2.1 (paramsF C.p) ts 0 → Sl TokR w 0 B A n cc ts →
  Calls Try.prog 126 #[.pointer (some ⟨M.R, 0, none⟩), .pointer (some ⟨c, 0, none⟩), .slice A n cc] w (RetEx M C B c fn y fr.by_ w Ft Fv Fo vv vo deep (bExpr C (big C N).1 deep ts [] fr st))
/-- What a call tells. -/
def RetCl (M : MCfg) (C : BCfg) (B : Nat) (y : Option Nat) (b : Option BEnd) (w : World) (Ft : List Nat) (deep : Int) (r : Int × BRes × Option BEnd × BSt) (e : Ending) (w' : World) : Prop :=
  ∃ (n deep' code' : Int) (vt' : Value) (Ft' : List Nat), e = .returned (.tuple #[.int .i64 (cut4 r.2.1.1), .int .i64 n]) ∧ I64 n ∧ Hid ((r.2.1.1 = 1 → n = r.1) ∧ (r.2.1.1 = 2 → n = r.2.1.2)) ∧ Hid (MSt M C w' deep' code' vt' Ft' r.2.2.2) ∧ Hid (ByUp w w' y b r.2.2.1) ∧
    Hid ((r.2.1.1 < 4 → deep' = deep ∧ code' = 0) ∧ (4 ≤ r.2.1.1 → code' = r.2.1.1)) ∧ Hid (Fr (M.R :: (Ft ++ y.toList)) w w') ∧ Hid (∀ k, k ∈ Ft' → k ∈ Ft ∨ w.heap.size ≤ k) ∧ Hid ((M.R :: (Ft' ++ y.toList)).Nodup)
def CallI (M : MCfg) (C : BCfg) (N : Nat) : Prop := ∀ (B fn : Nat) (y : Option Nat) (b : Option BEnd) (w : World) (Ft : List Nat) (vt : Value) (deep : Nat) (st : BSt) (A : Option Addr) (n cc : Nat) (given : List Int),
  Ctx M C B w → MSt M C w deep 0 vt Ft st → ByIn w y b → ByOk b → (M.R :: (Ft ++ y.toList)).Nodup → (∀ k, k ∈ M.R :: (Ft ++ y.toList) → B ≤ k) → fn < C.p.length → given.length ≤ (C.fn fn).2.1.toNat → (∀ x, x ∈ given → I32 x) → StOk C 600 st → st.fuel ≤ N → deep ≤ C.most → Sl intR w 0 w.heap.size A n cc given → (∀ a, A = some a → a.block ≠ M.R) →
  Calls Try.prog 60 #[.pointer (some ⟨M.R, 0, none⟩), .int .i64 fn, .slice A n cc, .pointer (y.map fun k => ⟨k, 0, none⟩)] w (RetCl M C B y b w Ft deep ((big C N).1 fn given (deep + 1) b st))
end Go.Proofs.Ytgoinmdnpaknpaa
