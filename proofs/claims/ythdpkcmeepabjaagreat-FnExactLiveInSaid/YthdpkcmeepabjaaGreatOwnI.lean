/- A list of ints in memory of the call's own: walks of both sides. -/
import Derived.Test.YthdpkcmeepabjaaGreatCloneT
import Derived.Test.YthdpkcmeepabjaaGreatNext
import Derived.Test.YthdpkcmeepabjaaGreatSlc
set_option linter.unusedVariables false
set_option linter.unusedSimpArgs false
set_option maxRecDepth 100000
namespace Go.Proofs.YthdpkcmeepabjaaGreat
open Go.RowKit
section
variable {w w' : World}
theorem IntRow.keepR {b : Nat} {v : Value} {l : List Int} (h : IntRow w b v l) (hk : ∀ k, b ≤ k → k < w.heap.size → v.ownBlock = some k → w'.heap[k]? = w.heap[k]?) : IntRow w' b v l := ownsRow_keep0 h fun k e => hk k (World.ownsRow.lt h k e).1 (World.ownsRow.lt h k e).2 e
end
theorem below_frozen {w w' : World} {p : Addr} (hb : Below w.heap.size w w') (hp : p.block < w.heap.size) (h : w.frozen? p = false) : w'.frozen? p = false := (hb.frozen (p := p) hp).trans h
theorem below_at {w w' : World} {n b : Nat} {x : Obj} (hb : Below n w w') (hn : b < n) (h : w.heap[b]? = some x) : w'.heap[b]? = some x := (hb.block b hn).trans h
theorem alloc_new' {w : World} {o : Obj} {X : Nat} (h : w.heap.size = X) : (w.alloc o).heap[X]? = some o := by subst h; exact heap_alloc_new w o
theorem heap_drew (w : World) : w.drew.heap = w.heap := rfl
theorem size_alloc (w : World) (o : Obj) : (w.alloc o).heap.size = w.heap.size + 1 := by simp
theorem alloc_lt {w : World} {o : Obj} {k : Nat} (h : k < w.heap.size) : (w.alloc o).heap[k]? = w.heap[k]? := (Below.alloc (Below.refl w.heap.size w) (Nat.le_refl _) o).block k h
end Go.Proofs.YthdpkcmeepabjaaGreat
