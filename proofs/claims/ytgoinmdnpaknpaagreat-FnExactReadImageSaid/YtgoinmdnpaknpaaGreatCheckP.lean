/- Whether a code is good: plain law. -/
import Derived.Test.YtgoinmdnpaknpaaGreatHeightP
import Derived.Test.YtgoinmdnpaknpaaGreatExprG
set_option linter.unusedVariables false
set_option linter.unusedSimpArgs false
namespace Go.Proofs.YtgoinmdnpaknpaaGreat
open Go.RowKit
def hasNB (op : Int) : Bool := op == 1 || op == 2 || op == 3 || op == 4 || op == 7 || op == 10 || op == 11 || op == 12 || op == 17
def insB (i : Ins) : Bool := if i.1 = 1 then small i.2 else if i.1 = 4 then inB i.2 3 8 else if hasNB i.1 = true then inB i.2 0 1000000 else inB i.1 1 18 && i.2 == 0
def codeSz (c : Code) : Bool := inB c.1 0 2 && inB c.2.1 c.1 6 && decide (c.2.2.1.length ≤ 4) && inB c.2.2.2.1.length 1 300 && decide (c.2.2.2.2.length ≤ 300) && c.2.2.2.1.all insB
def sizedB (x : Image) : Bool := inB x.length 1 5 && x.all codeSz
def namedI (vars : Int) (sites codes : Nat) (i : Ins) : Bool :=
  if i.1 = 2 ∨ i.1 = 3 then decide (i.2 < vars) else if i.1 = 12 ∨ i.1 = 17 then decide (i.2 < (sites : Int)) else if i.1 = 7 then decide (i.2 < (codes : Int)) else true
def namedB (x : Image) (c : Code) : Bool := c.2.2.2.1.all (namedI c.2.1 c.2.2.1.length x.length)
def siteB (x : Image) (n : Int) : Bool := inB n 0 ((x.length : Int) - 1) && parF x n == 0
def goesI (I : List Ins) (p : Nat) : Bool := (nextF (I.getD p (0, 0)) (p : Int)).all fun s => inB s 0 ((I.length : Int) - 1)
def goesB (I : List Ins) : Bool := (List.range I.length).all (goesI I)
def rowOk (e many : Int) (r : Row) : Bool := decide (e ≤ r.1) && decide (r.1 < r.2.1) && decide (r.2.1 ≤ many) && inB r.2.2 0 (many - 1)
def endOf (rows : List Row) : Int := (rows.getLast?.map fun r => r.2.1).getD 0
def rowAt (rows : List Row) (many : Int) (k : Nat) : Bool := rowOk (endOf (rows.take k)) many (rows.getD k (0, 0, 0))
def rowsB (rows : List Row) (many : Int) : Bool := (List.range rows.length).all (rowAt rows many)
def inRow (p : Int) (r : Row) : Bool := decide (r.1 ≤ p) && decide (p < r.2.1)
def raisesB (op : Int) : Bool := op == 4 || op == 7 || op == 13 || op == 14 || op == 16 || op == 17
def flatB (op : Int) : Bool := op == 18 || op == 16 || op == 14 || op == 17
def padOf (rows : List Row) (k : Int) : Int := (rows.getD k.toNat (0, 0, 0)).2.2
def bad6 (I : List Ins) (rows : List Row) (h : List Int) (p : Nat) : Bool :=
  decide (0 ≤ hv h p) && raisesB (I.getD p (0, 0)).1 && (decide (idxW (inRow p) rows < 0) || decide (padOf rows (idxW (inRow p) rows) ≤ (p : Int)))
def bad7 (I : List Ins) (h : List Int) (p : Nat) : Bool := decide (0 < hv h p) && flatB (I.getD p (0, 0)).1
noncomputable def codeF (x : Image) (c : Code) : Int :=
  if namedB x c = false then 1 else if c.2.2.1.all (siteB x) = false then 2 else if goesB c.2.2.2.1 = false then 3 else if rowsB c.2.2.2.2 c.2.2.2.1.length = false then 4
  else match heightsF x c.2.2.2.1 c.2.2.2.2 with
    | none => 5
    | some h => if (List.range c.2.2.2.1.length).any (bad6 c.2.2.2.1 c.2.2.2.2 h) = true then 6 else if (List.range c.2.2.2.1.length).any (bad7 c.2.2.2.1 h) = true then 7 else 0
noncomputable def checkH (x : Image) (c : Code) : List Int := if codeF x c = 0 then (heightsF x c.2.2.2.1 c.2.2.2.2).getD [] else []
noncomputable def goodI (x : Image) : Bool := sizedB x && parF x 0 == 0 && x.all fun c => decide (codeF x c = 0)
section
variable {x : Image} {c : Code}
theorem codeF_1 (h : namedB x c = false) : codeF x c = 1 := by unfold codeF; rw [if_pos h]
theorem codeF_2 (h1 : namedB x c = true) (h : c.2.2.1.all (siteB x) = false) : codeF x c = 2 := by unfold codeF; rw [if_neg (by simp [h1]), if_pos h]
theorem codeF_3 (h1 : namedB x c = true) (h2 : c.2.2.1.all (siteB x) = true) (h : goesB c.2.2.2.1 = false) : codeF x c = 3 := by unfold codeF; rw [if_neg (by simp [h1]), if_neg (by simp [h2]), if_pos h]
theorem codeF_4 (h1 : namedB x c = true) (h2 : c.2.2.1.all (siteB x) = true) (h3 : goesB c.2.2.2.1 = true) (h : rowsB c.2.2.2.2 c.2.2.2.1.length = false) : codeF x c = 4 := by
  unfold codeF; rw [if_neg (by simp [h1]), if_neg (by simp [h2]), if_neg (by simp [h3]), if_pos h]
theorem codeF_h (h1 : namedB x c = true) (h2 : c.2.2.1.all (siteB x) = true) (h3 : goesB c.2.2.2.1 = true) (h4 : rowsB c.2.2.2.2 c.2.2.2.1.length = true) : codeF x c = match heightsF x c.2.2.2.1 c.2.2.2.2 with
    | none => 5
    | some h => if (List.range c.2.2.2.1.length).any (bad6 c.2.2.2.1 c.2.2.2.2 h) = true then 6 else if (List.range c.2.2.2.1.length).any (bad7 c.2.2.2.1 h) = true then 7 else 0 := by
  unfold codeF; rw [if_neg (by simp [h1]), if_neg (by simp [h2]), if_neg (by simp [h3]), if_neg (by simp [h4])]
end
end Go.Proofs.YtgoinmdnpaknpaaGreat
