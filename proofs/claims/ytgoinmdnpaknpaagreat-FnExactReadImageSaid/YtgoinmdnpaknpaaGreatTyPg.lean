/- Several texts in one: TyTok, AnyTok, TyStmt, AnyStmt, TyFunc, TyProg. -/
import Derived.Test.YtgoinmdnpaknpaaGreatKit1
import Derived.Deep.RegionHeld3

/- Tok: how it lies in cells; the laws' own helpers over it. Printed by typegen.py. Walks. -/
set_option linter.unusedVariables false
set_option linter.unusedSimpArgs false
set_option maxRecDepth 100000
namespace Go.Proofs.YtgoinmdnpaknpaaGreat
open Go.RowKit

abbrev Tok := Int × Int
def TokR : Rp Tok := pairR intR (intR)
theorem Tok_rel {w : World} {lo hi : Nat} {cs : List Value} {x : Tok} (h : TokR.rel w lo hi cs x) : ∃ x0 x1, cs = ([.int .i64 x0, .int .i64 x1] : List Value) ∧ x = (x0, x1) ∧ I64 x0 ∧ I64 x1 := by
  obtain ⟨_, _, rfl, ⟨rfl, i0⟩, ⟨rfl, i1⟩⟩ := h
  exact ⟨x.1, x.2, rfl, rfl, i0, i1⟩
theorem Tok_own (w : World) (x0 : Int) (x1 : Int) (i0 : I64 x0) (i1 : I64 x1) : TokR.own w [] [.int .i64 x0, .int .i64 x1] (x0, x1) := ⟨[_], [_], [], [], rfl, rfl, ⟨rfl, rfl, i0⟩, ⟨rfl, rfl, i1⟩, by simp⟩
theorem Tok_at {w : World} {lo hi : Nat} {A : Option Addr} {n c k : Nat} {l : List Tok} (h : Sl TokR w lo hi A n c l) (hk : k < n) :
    ∃ b off x0 x1, A = some ⟨b, off, none⟩ ∧ lo ≤ b ∧ b < hi ∧ l[k]'(by have := h.1; omega) = (x0, x1) ∧ I64 x0 ∧ I64 x1 ∧ w.cell? ⟨b, off + k * 2, none⟩ = some (.int .i64 x0) ∧ w.cell? ⟨b, off + k * 2 + 1, none⟩ = some (.int .i64 x1) := by
  obtain ⟨b, off, cs, rfl, hb1, hb2, hr, hc⟩ := h.at_ hk
  obtain ⟨x0, x1, rfl, hx, i0, i1⟩ := Tok_rel hr
  exact ⟨b, off, x0, x1, rfl, hb1, hb2, hx, i0, i1, hc 0 (by simp), hc 1 (by simp)⟩
end Go.Proofs.YtgoinmdnpaknpaaGreat

/- slices.IndexFunc, slices.ContainsFunc over slices of Tok. Printed by anygen.py. Walks. -/
set_option linter.unusedVariables false
set_option linter.unusedSimpArgs false
set_option maxRecDepth 100000
namespace Go.Proofs.YtgoinmdnpaknpaaGreat
open Go.RowKit

end Go.Proofs.YtgoinmdnpaknpaaGreat

/- slices.IndexFunc, slices.ContainsFunc over slices of Stmt. Printed by anygen.py. Walks. -/
set_option linter.unusedVariables false
set_option linter.unusedSimpArgs false
set_option maxRecDepth 100000
namespace Go.Proofs.YtgoinmdnpaknpaaGreat
open Go.RowKit

end Go.Proofs.YtgoinmdnpaknpaaGreat
