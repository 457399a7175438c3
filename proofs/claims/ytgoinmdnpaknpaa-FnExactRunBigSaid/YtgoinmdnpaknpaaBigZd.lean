/- Programs done with fuel: the reference's functions at every fuel. -/
import Derived.Test.YtgoinmdnpaknpaaBigNb
import Derived.Test.YtgoinmdnpaknpaaBigNs
import Derived.Test.YtgoinmdnpaknpaaBigNe
import Derived.Test.YtgoinmdnpaknpaaBigZc
set_option linter.unusedVariables false
set_option linter.unusedSimpArgs false
set_option maxRecDepth 100000
namespace Go.Proofs.Ytgoinmdnpaknpaa
open Go.RowKit
attribute [local irreducible] wpList
theorem specBig {M : MCfg} {C : BCfg} (G : CfgG C) : ∀ (N : Nat), N ≤ 600 → ∀ L, L ≤ N → StmtJ M C L ∧ BlockJ M C L ∧ CallJ M C L ∧ ExprJ M C L
  | 0, _, L, hL => by
    obtain rfl : L = 0 := by omega
    have h1 : StmtJ M C 0 := specStmt G (by omega) (fun L h => by omega) (fun L h => by omega) (fun L h => by omega)
    have h2 : CallJ M C 0 := specCall G (by omega) (fun L h => by omega) (fun L h => by omega)
    exact ⟨h1, specBlock G (by omega) h1, h2, specExpr G (by omega) h2⟩
  | N + 1, h, L, hL => by
    have ih := specBig (M := M) G N (by omega)
    by_cases hLN : L ≤ N
    · exact ih L hLN
    · obtain rfl : L = N + 1 := by omega
      have h1 : StmtJ M C (N + 1) := specStmt G h (fun K hK => (ih K (by omega)).2.2.2) (fun K hK => (ih K (by omega)).2.1) (fun K hK => (ih K (by omega)).1)
      have h2 : CallJ M C (N + 1) := specCall G h (fun K hK => (ih K (by omega)).2.1) (fun K hK => (ih K (by omega)).2.2.1)
      exact ⟨h1, specBlock G h h1, h2, specExpr G h h2⟩
end Go.Proofs.Ytgoinmdnpaknpaa
