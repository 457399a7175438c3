/- Where an instruction goes on: walks of both sides. -/
import Derived.Test.YtenpekohbedehaaSortI
import Derived.Test.YtenpekohbedehaaSlc
import Derived.Test.YtenpekohbedehaaFlatK
import Derived.Test.YtenpekohbedehaaHeightP
import Derived.Test.YtenpekohbedehaaCheckP
import Derived.IntWalk
import Derived.Deep.QuietTactic
import Derived.BigQuiet
set_option linter.unusedVariables false
set_option linter.unusedSimpArgs false
set_option maxRecDepth 100000
namespace Go.Proofs.Ytenpekohbedehaa
open Go.RowKit
def IntRow (w : World) (base : Nat) (v : Value) (l : List Int) : Prop := w.ownsRow base 3 1 v l.length (l.map (Value.int .i64))
def RetInts (l : List Int) (w : World) (e : Ending) (w' : World) : Prop := ∃ v, e = .returned v ∧ IntRow w' w.heap.size v l ∧ Below w.heap.size w w'
theorem IntRow.nil_ (w : World) (base : Nat) : IntRow w base (.slice none 0 0) [] := World.ownsRow_nil _ _ _ _
theorem IntRow.below {w w' : World} {base : Nat} {v : Value} {l : List Int} (h : IntRow w base v l) (hb : Below w.heap.size w w') : IntRow w' base v l := ownsRow_below h hb
theorem IntRow.form {w : World} {b : Nat} {v : Value} {l : List Int} (h : IntRow w b v l) : ∃ A m c, v = .slice A m c ∧ m = l.length := by
  rcases h.2 with ⟨rfl, h0⟩ | ⟨g, cap, cur, rfl, _⟩
  · exact ⟨_, _, _, rfl, h0.symm⟩
  · exact ⟨_, _, _, rfl, rfl⟩
theorem IntRow.mono {w : World} {b b' : Nat} {v : Value} {l : List Int} (h : IntRow w b v l) (hb : b' ≤ b) : IntRow w b' v l := World.ownsRow.mono h hb
theorem IntRow.sl {w : World} {b : Nat} {A : Option Addr} {n c : Nat} {l : List Int} (h : IntRow w b (.slice A n c) l) (hok : ∀ x, x ∈ l → I64 x) : Sl intR w 0 w.heap.size A n c l := OwnSl.sl (own_ints h hok)
theorem IntRow.new1 {w : World} {g base : Nat} (hg : w.heap.size = g) (hb : base ≤ g) (x : Int) : IntRow (w.alloc (.cells #[.int .i64 x] 3)) base (.slice (some ⟨g, 0, none⟩) 1 1) [x] := by
  subst hg
  exact ⟨rfl, Or.inr ⟨_, 1, #[.int .i64 x], rfl, hb, heap_alloc_new _ _, Nat.le_refl _, by unfold maxLen; omega, rfl, rfl⟩⟩
theorem IntRow.new2 {w : World} {g base : Nat} (hg : w.heap.size = g) (hb : base ≤ g) (x y : Int) : IntRow (w.alloc (.cells #[.int .i64 x, .int .i64 y] 3)) base (.slice (some ⟨g, 0, none⟩) 2 2) [x, y] := by
  subst hg
  exact ⟨rfl, Or.inr ⟨_, 2, #[.int .i64 x, .int .i64 y], rfl, hb, heap_alloc_new _ _, Nat.le_refl _, by unfold maxLen; omega, rfl, rfl⟩⟩
theorem IntRow.at_ {w : World} {b g m c k : Nat} {l : List Int} (h : IntRow w b (.slice (some ⟨g, 0, none⟩) m c) l) (hk : k < l.length) : w.cell? ⟨g, k, none⟩ = some (.int .i64 l[k]) := by
  unfold IntRow at h
  have hm := (ownsRow_cases (World.ownsRow.mono h (Nat.zero_le _))).1
  subst hm
  have h0 := h.cellAt k (by omega)
  rw [h0]; simp [hk]
theorem sort_two (a b : Int) : ([a, b].mergeSort fun x y => decide (x ≤ y)) = if a ≤ b then [a, b] else [b, a] := by
  by_cases h : a ≤ b <;> simp [List.mergeSort, List.MergeSort.Internal.splitInTwo, List.merge, h]
theorem nextF_10 {n p : Int} : nextF (10, n) p = [n] := rfl
theorem nextF_11a {n p : Int} (h : p + 1 < n) : nextF (11, n) p = [p + 1, n] := by unfold nextF; simp [h]
theorem nextF_11b {n p : Int} (h : n = p + 1) : nextF (11, n) p = [p + 1] := by unfold nextF; subst h; simp
theorem nextF_11c {n p : Int} (h : n < p + 1) : nextF (11, n) p = [n, p + 1] := by
  unfold nextF
  have h1 : ¬ p + 1 < n := by omega
  have h2 : ¬ n = p + 1 := by omega
  simp [h1, h2]
theorem nextF_none {o n p : Int} (h : o = 13 ∨ o = 14 ∨ o = 16 ∨ o = 18) : nextF (o, n) p = [] := by
  unfold nextF
  rw [if_neg (by simp only; omega), if_neg (by simp only; omega), if_pos h]
theorem nextF_one {o n p : Int} (h : ¬ o = 10) (h1 : ¬ o = 11) (h2 : ¬ (o = 13 ∨ o = 14 ∨ o = 16 ∨ o = 18)) : nextF (o, n) p = [p + 1] := by
  unfold nextF
  rw [if_neg h, if_neg h1, if_neg h2]
theorem nextF_two (n p : Int) : nextF (11, n) p = (if (if p + 1 ≤ n then p + 1 else n) = (if p + 1 ≤ n then n else p + 1) then [if p + 1 ≤ n then p + 1 else n] else [if p + 1 ≤ n then p + 1 else n, if p + 1 ≤ n then n else p + 1]) := by
  by_cases h1 : p + 1 < n
  · have e : p + 1 ≤ n := by omega
    rw [nextF_11a h1]; simp only [if_pos e]; rw [if_neg (by omega)]
  · by_cases h2 : n = p + 1
    · have e : p + 1 ≤ n := by omega
      rw [nextF_11b h2]; simp only [if_pos e]; rw [if_pos h2.symm]
    · have e : ¬ p + 1 ≤ n := by omega
      rw [nextF_11c (by omega)]; simp only [if_neg e]; rw [if_neg (by omega)]
end Go.Proofs.Ytenpekohbedehaa
