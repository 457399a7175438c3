/- Blocks of the memory: small plain lemmas. -/
import Derived.Test.YtgoinmdnpaknpaaKit1
set_option linter.unusedVariables false
set_option linter.unusedSimpArgs false
namespace Go.Proofs.Ytgoinmdnpaknpaa
open Go.RowKit
theorem blk_frozen {w : World} {b : Nat} {cs : Array Value} {t : TypeId} (h : w.heap[b]? = some (.cells cs t)) (j : Nat) : w.frozen? ⟨b, j, none⟩ = false := by simp [World.frozen?, h]
theorem blk_size {w : World} {b : Nat} {o : Obj} (h : w.heap[b]? = some o) : b < w.heap.size := (Array.getElem?_eq_some_iff.1 h).1
theorem below_frozen {w w' : World} {p : Addr} (hb : Below w.heap.size w w') (hp : p.block < w.heap.size) (h : w.frozen? p = false) : w'.frozen? p = false := (hb.frozen (p := p) hp).trans h
theorem below_at {w w' : World} {n b : Nat} {x : Obj} (hb : Below n w w') (hn : b < n) (h : w.heap[b]? = some x) : w'.heap[b]? = some x := (hb.block b hn).trans h
theorem alloc_new' {w : World} {o : Obj} {X : Nat} (h : w.heap.size = X) : (w.alloc o).heap[X]? = some o := by subst h; exact heap_alloc_new w o
theorem heap_drew (w : World) : w.drew.heap = w.heap := rfl
theorem size_alloc (w : World) (o : Obj) : (w.alloc o).heap.size = w.heap.size + 1 := by simp
theorem alloc_lt {w : World} {o : Obj} {k : Nat} (h : k < w.heap.size) : (w.alloc o).heap[k]? = w.heap[k]? := (Below.alloc (Below.refl w.heap.size w) (Nat.le_refl _) o).block k h
theorem slice_form {w : World} {base size n : Nat} {e : TypeId} {v : Value} {xs : List Value} (h : w.ownsRow base e size v n xs) : ∃ A m c, v = .slice A m c := by
  rcases h.2 with ⟨rfl, _⟩ | ⟨g, cap, cur, rfl, _⟩
  · exact ⟨_, _, _, rfl⟩
  · exact ⟨_, _, _, rfl⟩
end Go.Proofs.Ytgoinmdnpaknpaa
