/- Programs done with fuel: plain law. -/
import Derived.Test.YtgoinmdnpaknpaaReck
import Derived.Test.YtgoinmdnpaknpaaGood3
set_option linter.unusedVariables false
set_option linter.unusedSimpArgs false
namespace Go.Proofs.Ytgoinmdnpaknpaa
open Go.RowKit
/-- A run under way: how many inputs are used, the fuel, the trace. -/
structure BSt where
  used : Nat
  fuel : Nat
  tr : List Int
/-- How a call is ending: in which way, with which number where it panics, and whether it has exited. -/
structure BEnd where
  how : Int
  val : Int
  ex : Bool
/-- A call under way: its variables, what it puts off, its result, and the ending that it may recover. -/
structure BFr where
  vars : List Int
  off : List Int
  res : Int
  by_ : Option BEnd
/-- How something ends (0 goes on, 1 returns, 2 panics, 3 exits, 4 too deep, 5 no fuel), and a panic's number. -/
abbrev BRes := Int × Int
abbrev CallF := Nat → List Int → Nat → Option BEnd → BSt → Int × BRes × Option BEnd × BSt
abbrev StmtF := Func → Stmt → Nat → BFr → BSt → BRes × BFr × BSt
/-- The words of a program that is run. -/
structure BCfg where
  p : List Func
  ins : List Int
  most : Nat
def BCfg.fn (C : BCfg) (k : Nat) : Func := C.p.getD k (0, 0, [], [])
def stOf (f : Func) (n : Int) : Stmt := f.2.2.2.getD n.toNat (0, 0, [], [], [])
/-- What a recover puts, and what is left of the ending. -/
def recv : Option BEnd → Int × Option BEnd
  | none => (0, none)
  | some b => if b.how = 2 then (b.val, some ⟨if b.ex = true then 3 else 1, 0, b.ex⟩) else (0, some b)
/-- A token more: what the pile is then, or how the body ends by it. -/
def bTok (C : BCfg) (call : CallF) (deep : Nat) (t : Tok) (pile : List Int) (fr : BFr) (st : BSt) : List Int × BRes × BFr × BSt :=
  if t.1 = 1 then (pile ++ [t.2], (0, 0), fr, st)
  else if t.1 = 2 then (pile ++ [fr.vars.getD t.2.toNat 0], (0, 0), fr, st)
  else if t.1 = 9 then (if st.used < C.ins.length then (pile ++ [C.ins.getD st.used 0], (0, 0), fr, { st with used := st.used + 1 }) else (pile ++ [0], (0, 0), fr, st))
  else if t.1 = 10 then (pile ++ [(recv fr.by_).1], (0, 0), { fr with by_ := (recv fr.by_).2 }, st)
  else if t.1 = 11 then
    let top := pile.length - (C.fn t.2.toNat).1.toNat
    let r := call t.2.toNat (pile.drop top) (deep + 1) none st
    if r.2.1.1 = 1 then (pile.take top ++ [r.1], (0, 0), fr, r.2.2.2) else (pile, r.2.1, fr, r.2.2.2)
  else
    let top := pile.length - 2
    if recB t.1 (pile.getD (top + 1) 0) = true then (pile.take top ++ [recN t.1 (pile.getD top 0) (pile.getD (top + 1) 0)], (0, 0), fr, st) else (pile, (2, -1), fr, st)
/-- The tokens of an expression: what it comes to, or how the body ends by it. -/
def bExpr (C : BCfg) (call : CallF) (deep : Nat) : List Tok → List Int → BFr → BSt → Int × BRes × BFr × BSt
  | [], pile, fr, st => (pile.getD 0 0, (0, 0), fr, st)
  | t :: ts, pile, fr, st =>
    let r := bTok C call deep t pile fr st
    if r.2.1.1 = 0 then bExpr C call deep ts r.1 r.2.2.1 r.2.2.2 else (0, r.2.1, r.2.2.1, r.2.2.2)
def bBlock (stmt : StmtF) (f : Func) (deep : Nat) : List Int → BFr → BSt → BRes × BFr × BSt
  | [], fr, st => ((0, 0), fr, st)
  | n :: ns, fr, st =>
    let r := stmt f (stOf f n) deep fr st
    if r.1.1 = 0 then bBlock stmt f deep ns r.2.1 r.2.2 else r
/-- What a statement does behind its expression. -/
def bStmtE (stmt : StmtF) (f : Func) (s : Stmt) (deep : Nat) (n : Int) (fr : BFr) (st : BSt) : BRes × BFr × BSt :=
  if s.1 = 1 then ((0, 0), { fr with vars := fr.vars.set s.2.1.toNat n }, st)
  else if s.1 = 2 then ((0, 0), fr, { st with tr := st.tr ++ [n] })
  else if s.1 = 4 then ((2, n), fr, st)
  else if s.1 = 5 then ((1, 0), { fr with res := n }, st)
  else if s.1 = 7 then bBlock stmt f deep (if n = 0 then s.2.2.2.2 else s.2.2.2.1) fr st
  else if s.1 = 8 then
    (if n = 0 then ((0, 0), fr, st)
     else
      let r := bBlock stmt f deep s.2.2.2.1 fr st
      if r.1.1 = 0 then stmt f s deep r.2.1 r.2.2 else r)
  else ((0, 0), fr, st)
def bStmt (C : BCfg) (call : CallF) (stmt : StmtF) : StmtF := fun f s deep fr st =>
  if st.fuel = 0 then ((5, 0), fr, st)
  else if s.1 = 3 then ((0, 0), { fr with off := fr.off ++ [s.2.1] }, { st with fuel := st.fuel - 1 })
  else if s.1 = 6 then ((3, 0), fr, { st with fuel := st.fuel - 1 })
  else
    let r := bExpr C call deep s.2.2.1 [] fr { st with fuel := st.fuel - 1 }
    if r.2.1.1 = 0 then bStmtE stmt f s deep r.1 r.2.2.1 r.2.2.2 else r.2
/-- The calls that were put off, the last one first. -/
def bOff (call : CallF) (deep : Nat) : List Int → BEnd → BSt → BRes × BEnd × BSt
  | [], x, st => ((0, 0), x, st)
  | g :: gs, x, st =>
    let r := call g.toNat [] (deep + 1) (some x) st
    let x' := r.2.2.1.getD x
    if r.2.1.1 = 1 then bOff call deep gs x' r.2.2.2
    else if r.2.1.1 = 2 then bOff call deep gs ⟨2, r.2.1.2, x'.ex⟩ r.2.2.2
    else if r.2.1.1 = 3 then bOff call deep gs ⟨3, 0, true⟩ r.2.2.2
    else (r.2.1, x', r.2.2.2)
def bCall (C : BCfg) (call : CallF) (stmt : StmtF) : CallF := fun fn given deep by_ st =>
  if st.fuel = 0 then (0, (5, 0), by_, st)
  else if C.most < deep then (0, (4, 0), by_, st)
  else
    let f := C.fn fn
    let r := bBlock stmt f deep f.2.2.1 ⟨given ++ List.replicate (f.2.1.toNat - given.length) 0, [], 0, by_⟩ { st with fuel := st.fuel - 1 }
    if 4 ≤ r.1.1 then (0, r.1, r.2.1.by_, r.2.2)
    else
      let how := if r.1.1 = 0 then 1 else r.1.1
      let q := bOff call deep r.2.1.off.reverse ⟨how, r.1.2, how == 3⟩ r.2.2
      if q.1.1 = 0 then ((if q.2.1.how = 1 then r.2.1.res else 0), (q.2.1.how, q.2.1.val), r.2.1.by_, q.2.2)
      else (0, q.1, r.2.1.by_, q.2.2)
/-- Calls and statements, where there is no more fuel than so much. -/
def big (C : BCfg) : Nat → CallF × StmtF
  | 0 => (fun _ _ _ by_ st => (0, (5, 0), by_, st), fun _ _ _ fr st => ((5, 0), fr, st))
  | N + 1 => (bCall C (big C N).1 (big C N).2, bStmt C (big C N).1 (big C N).2)
/-- What RunBig tells: how it ends, a number, the trace, how many inputs are used. -/
def bigR (fs : List Func) (ins : List Int) (most fuel : Nat) : Int × Int × List Int × Int :=
  let r := (big ⟨fs, ins, most⟩ fuel).1 0 [] 1 none ⟨0, fuel, []⟩
  (r.2.1.1, (if r.2.1.1 = 1 then r.1 else if r.2.1.1 = 2 then r.2.1.2 else 0), r.2.2.2.tr, (r.2.2.2.used : Int))
end Go.Proofs.Ytgoinmdnpaknpaa
