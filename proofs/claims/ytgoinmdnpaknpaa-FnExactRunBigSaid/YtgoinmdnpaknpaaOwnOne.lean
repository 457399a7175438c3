/- A field that owns its list. Plain lemma. -/
import Derived.Test.YtgoinmdnpaknpaaKit1
namespace Go.Proofs.Ytgoinmdnpaknpaa
open Go.RowKit
theorem own_of1 {α : Type} {R : Rp α} {w : World} {e : TypeId} {F : List Nat} {A : Option Addr} {n c : Nat} {l : List α} (h : (sliceR e R).own w F [.slice A n c] l) : OwnSl R w e F (.slice A n c) l := by
  obtain ⟨A', n', c', e1, h⟩ := h
  simp only [List.cons.injEq, Value.slice.injEq, and_true] at e1
  obtain ⟨rfl, rfl, rfl⟩ := e1
  exact h
end Go.Proofs.Ytgoinmdnpaknpaa
