/- Programs done with fuel: the program's functions at every fuel, and its tops. -/
import Derived.Test.YtgoinmdnpaknpaaBigG
set_option linter.unusedVariables false
set_option linter.unusedSimpArgs false
set_option maxRecDepth 100000
namespace Go.Proofs.Ytgoinmdnpaknpaa
open Go.RowKit
attribute [local irreducible] wpList
theorem implBig {M : MCfg} {C : BCfg} (G : CfgG C) : ∀ (N : Nat), N ≤ 600 → ∀ L, L ≤ N → StmtI M C L ∧ BlockI M C L ∧ CallI M C L ∧ ExprI M C L
  | 0, _, L, hL => by
    obtain rfl : L = 0 := by omega
    have h1 : StmtI M C 0 := implStmt G (by omega) (fun L h => by omega) (fun L h => by omega)
    have h2 : CallI M C 0 := implCall G (by omega) (fun L h => by omega) (fun L h => by omega)
    exact ⟨h1, implBlock G (by omega) h1, h2, implExpr G (by omega) h2⟩
  | N + 1, h, L, hL => by
    have ih := implBig (M := M) G N (by omega)
    by_cases hLN : L ≤ N
    · exact ih L hLN
    · obtain rfl : L = N + 1 := by omega
      have h1 : StmtI M C (N + 1) := implStmt G h (fun K hK => (ih K (by omega)).2.2.2) (fun K hK => (ih K (by omega)).2.1)
      have h2 : CallI M C (N + 1) := implCall G h (fun K hK => (ih K (by omega)).2.1) (fun K hK => (ih K (by omega)).2.2.1)
      exact ⟨h1, implBlock G h h1, h2, implExpr G h h2⟩
end Go.Proofs.Ytgoinmdnpaknpaa
