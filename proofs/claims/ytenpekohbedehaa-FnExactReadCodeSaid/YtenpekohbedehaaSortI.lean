/- slices.Sort of ints: the kit's contract turned to rows. -/
import Derived.Shelf.Sort.Plain
import Derived.Lib.SortBridge
import Derived.Deep.Onto
import Derived.Test.YtenpekohbedehaaSlc
import Derived.Test.YtenpekohbedehaaKit1
set_option linter.unusedVariables false
set_option linter.unusedSimpArgs false
namespace Go.Proofs
open Go.Shelf
end Go.Proofs
namespace Go.Proofs.Ytenpekohbedehaa
open Go.RowKit Go.Shelf Go.Sort
theorem grow_heap (w : World) (os : Array Obj) {k : Nat} (hk : k < w.heap.size) : (grow w os).heap[k]? = w.heap[k]? := by
  unfold grow
  simp [Array.getElem?_append, hk]
theorem grow_fr {F : List Nat} {a w : World} (h : Fr F a w) (os : Array Obj) : Fr F a (grow w os) :=
  ⟨h.os, h.tape, h.output, Nat.le_trans h.size (by unfold grow; simp), fun k hk hn => (grow_heap w os (Nat.lt_of_lt_of_le hk h.size)).trans (h.block k hk hn)⟩
theorem ownsRow_drewN {w : World} {base : Nat} {e : TypeId} {size n : Nat} {v : Value} {xs : List Value} (h : w.ownsRow base e size v n xs) (q : Nat) : (w.drewN q).ownsRow base e size v n xs := ownsRow_keep0 h fun _ _ => rfl
theorem ownsRow_grow {w : World} {base : Nat} {e : TypeId} {size n : Nat} {v : Value} {xs : List Value} (h : w.ownsRow base e size v n xs) (os : Array Obj) : (grow w os).ownsRow base e size v n xs :=
  ownsRow_keep0 h fun k hk => grow_heap w os (h.lt k hk).2
theorem ownsRow_base {w : World} {b b' : Nat} {e : TypeId} {size n g c : Nat} {xs ys : List Value} (h : w.ownsRow b e size (.slice (some ⟨g, 0, none⟩) n c) n xs) {w' : World} (h' : w'.ownsRow b' e size (.slice (some ⟨g, 0, none⟩) n c) n ys) : w'.ownsRow b e size (.slice (some ⟨g, 0, none⟩) n c) n ys := by
  obtain ⟨h1, h2⟩ := h'
  refine ⟨h1, ?_⟩
  rcases h2 with ⟨h2, _⟩ | ⟨g', cap, cur, hv, hg, r⟩
  · cases h2
  · injection hv with a _ c
    injection a with a
    injection a with a
    subst a c
    exact Or.inr ⟨g, c, cur, rfl, (h.lt g rfl).1, r⟩
end Go.Proofs.Ytenpekohbedehaa
