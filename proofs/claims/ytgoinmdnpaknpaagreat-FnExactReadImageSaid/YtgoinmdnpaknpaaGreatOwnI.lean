/- A list of ints in memory of the call's own: walks of both sides. -/
import Derived.Test.YtgoinmdnpaknpaaGreatFlatK
import Derived.Test.YtgoinmdnpaknpaaGreatNext
import Derived.Test.YtgoinmdnpaknpaaGreatSlc
import Derived.Test.YtgoinmdnpaknpaaGreatBlk
set_option linter.unusedVariables false
set_option linter.unusedSimpArgs false
set_option maxRecDepth 100000
namespace Go.Proofs.YtgoinmdnpaknpaaGreat
open Go.RowKit
section
variable {w w' : World}
theorem IntRow.keepR {b : Nat} {v : Value} {l : List Int} (h : IntRow w b v l) (hk : ∀ k, b ≤ k → k < w.heap.size → v.ownBlock = some k → w'.heap[k]? = w.heap[k]?) : IntRow w' b v l := ownsRow_keep0 h fun k e => hk k (World.ownsRow.lt h k e).1 (World.ownsRow.lt h k e).2 e
end
end Go.Proofs.YtgoinmdnpaknpaaGreat
