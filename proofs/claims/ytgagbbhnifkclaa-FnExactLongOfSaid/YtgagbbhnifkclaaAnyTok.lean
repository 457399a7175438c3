/- slices.IndexFunc, slices.ContainsFunc over slices of Tok. Printed by anygen.py. Walks. -/
import Derived.Test.YtgagbbhnifkclaaTyTok
import Derived.Test.YtgagbbhnifkclaaAnyBase
set_option linter.unusedVariables false
set_option linter.unusedSimpArgs false
set_option maxRecDepth 100000
namespace Go.Proofs.Ytgagbbhnifkclaa
open Go.RowKit

end Go.Proofs.Ytgagbbhnifkclaa
