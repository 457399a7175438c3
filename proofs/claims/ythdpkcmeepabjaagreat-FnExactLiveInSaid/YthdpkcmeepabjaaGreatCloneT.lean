/- slices.Clone of lists of tokens, of ints. Walks. -/
import Derived.Test.YthdpkcmeepabjaaGreatSlc
import Derived.Test.YthdpkcmeepabjaaGreatFlatK
import Derived.WalkSpells
set_option linter.unusedVariables false
set_option linter.unusedSimpArgs false
set_option maxRecDepth 100000
namespace Go.Proofs.YthdpkcmeepabjaaGreat
open Go.RowKit
theorem sl_nil_addr {α : Type} {R : Rp α} {w : World} {lo hi n c : Nat} {l : List α} (h : Sl R w lo hi none n c l) : l = [] := by
  rcases Nat.eq_zero_or_pos n with h0 | h0
  · exact List.eq_nil_of_length_eq_zero (by rw [h.lenEq, h0])
  · obtain ⟨_, _, _, h1, _⟩ := h.at_ h0; cases h1
theorem sl_ints_ok {w : World} {lo hi n c : Nat} {A : Option Addr} {l : List Int} (h : Sl intR w lo hi A n c l) : ∀ t, t ∈ l → I64 t := by
  intro t ht
  obtain ⟨i, hi, rfl⟩ := List.getElem_of_mem ht
  obtain ⟨_, _, _, _, _, _, e⟩ := h.int_at (k := i) (by rw [← h.lenEq]; exact hi)
  exact e
end Go.Proofs.YthdpkcmeepabjaaGreat
