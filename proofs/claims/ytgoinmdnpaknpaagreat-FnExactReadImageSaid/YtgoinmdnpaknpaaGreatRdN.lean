/- ReadCode: the program's top, and the contracts of both sides. -/
import Derived.Test.YtgoinmdnpaknpaaGreatRdM
set_option linter.unusedVariables false
set_option linter.unusedSimpArgs false
set_option maxRecDepth 100000
namespace Go.Proofs.YtgoinmdnpaknpaaGreat
open Go.RowKit
attribute [local irreducible] wpList
end Go.Proofs.YtgoinmdnpaknpaaGreat
