/- Results in memory of their own, and such as are only read. Plain lemmas. -/
import Derived.Test.YtkedpaopnnhinaaMk
set_option linter.unusedVariables false
namespace Go.Proofs.Ytkedpaopnnhinaa
open Go.RowKit
/-- The call returns a slice that reads as l, and a bool; what was there is as it was. -/
def RetSlB {α : Type} (R : Rp α) (l : List α) (b : Bool) (w : World) (e : Ending) (w' : World) : Prop :=
  ∃ A n c, e = .returned (.tuple #[.slice A n c, .bool b]) ∧ Sl R w' 0 w'.heap.size A n c l ∧ Below w.heap.size w w'
theorem RetOwnB.toSl {α : Type} {R : Rp α} {E : TypeId} {l : List α} {b : Bool} {w : World} {e : Ending} {w' : World} (h : RetOwnB R E l b w e w') : RetSlB R l b w e w' := by
  obtain ⟨F, A, n, c, rfl, ho, _, hb⟩ := h
  exact ⟨A, n, c, rfl, ho.sl, hb⟩
theorem Sl.up {α : Type} {R : Rp α} {w w' : World} {hi : Nat} {A : Option Addr} {n c : Nat} {l : List α} (h : Sl R w 0 hi A n c l) (h1 : hi ≤ w.heap.size) (hb : Below w.heap.size w w') : Sl R w' 0 w'.heap.size A n c l :=
  (h.more (Nat.le_refl _) h1).next hb
theorem cell_fr {F : List Nat} {w w' : World} {b o : Nat} {v : Value} (hf : Fr F w w') (hn : ¬ b ∈ F) (h : w.cell? ⟨b, o, none⟩ = some v) : w'.cell? ⟨b, o, none⟩ = some v := by
  have hlt := World.block_lt_of_cell? w ⟨b, o, none⟩ h
  have := hf.block b hlt hn
  rw [← h]
  unfold World.cell?
  simp only [this]
end Go.Proofs.Ytkedpaopnnhinaa
