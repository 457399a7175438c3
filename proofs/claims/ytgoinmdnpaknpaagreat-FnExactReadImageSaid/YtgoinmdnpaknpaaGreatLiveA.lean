/- What a good code's check says (plain), and a slice of bools that the call made reads as its list. -/
import Derived.Test.YtgoinmdnpaknpaaGreatImageI
import Derived.Test.YtgoinmdnpaknpaaGreatHeightS
import Derived.Test.YtgoinmdnpaknpaaGreatKit1
set_option linter.unusedVariables false
set_option linter.unusedSimpArgs false
set_option maxRecDepth 100000
namespace Go.Proofs.YtgoinmdnpaknpaaGreat
open Go.RowKit
theorem codeF_0 {x : Image} {c : Code} (h : codeF x c = 0) : namedB x c = true ∧ goesB c.2.2.2.1 = true ∧ rowsB c.2.2.2.2 c.2.2.2.1.length = true ∧ ∃ l, heightsF x c.2.2.2.1 c.2.2.2.2 = some l ∧ checkH x c = l := by
  by_cases h1 : namedB x c = true
  rotate_left
  · rw [codeF_1 (by simpa using h1)] at h; omega
  by_cases h2 : c.2.2.1.all (siteB x) = true
  rotate_left
  · rw [codeF_2 h1 (by simpa using h2)] at h; omega
  by_cases h3 : goesB c.2.2.2.1 = true
  rotate_left
  · rw [codeF_3 h1 h2 (by simpa using h3)] at h; omega
  by_cases h4 : rowsB c.2.2.2.2 c.2.2.2.1.length = true
  rotate_left
  · rw [codeF_4 h1 h2 h3 (by simpa using h4)] at h; omega
  refine ⟨h1, h3, h4, ?_⟩
  have h0 := h
  rw [codeF_h h1 h2 h3 h4] at h
  cases hh : heightsF x c.2.2.2.1 c.2.2.2.2 with
  | none => rw [hh] at h; simp at h
  | some l => exact ⟨l, rfl, by unfold checkH; rw [if_pos h0, hh]; rfl⟩
theorem checkH_len {x : Image} {c : Code} (h : codeF x c = 0) : (checkH x c).length = c.2.2.2.1.length ∧ ∀ v, v ∈ checkH x c → I64 v := by
  obtain ⟨_, _, _, l, hl, e⟩ := codeF_0 h
  obtain ⟨h1, h2, h3⟩ := heights_ok hl
  rw [e]
  refine ⟨h1, fun v hvm => ?_⟩
  obtain ⟨i, hi, rfl⟩ := List.getElem_of_mem hvm
  have a := h2 _ (List.getElem_mem hi)
  have b := h3 i
  unfold hv at b
  simp [List.getD, hi] at b
  unfold I64; omega
theorem own_bools {w : World} {base : Nat} {e : TypeId} {v : Value} {l : List Bool} (h : w.ownsRow base e 1 v l.length (l.map Value.bool)) : OwnSl boolR w e v.ownBlock.toList v l := by
  refine ⟨l.map fun x => [.bool x], l.map fun _ => [], ?_, ?_, ?_, ?_⟩
  · have e1 : (l.map fun x => [Value.bool x]).flatten = l.map Value.bool := by
      clear h
      induction l with
      | nil => rfl
      | cons x l ih => simp only [List.map_cons, List.flatten_cons, ih]; rfl
    rw [e1]
    refine ⟨h.1, ?_⟩
    rcases h.2 with h | ⟨g, cap, cur, a, b, r⟩
    · exact .inl h
    · exact .inr ⟨g, cap, cur, a, Nat.zero_le _, r⟩
  · clear h
    induction l with
    | nil => trivial
    | cons x l ih => exact ⟨⟨rfl, rfl, trivial⟩, ih⟩
  · have e2 : (l.map fun _ => ([] : List Nat)).flatten = [] := by
      clear h
      induction l with
      | nil => rfl
      | cons x l ih => simp only [List.map_cons, List.flatten_cons, ih]; rfl
    rw [e2, List.append_nil]
  · cases v.ownBlock <;> simp
theorem RetOwnB.bools {E : TypeId} {l : List Bool} {b b' : Bool} {w w' : World} {v : Value} {base : Nat} (h : w'.ownsRow base E 1 v l.length (l.map Value.bool)) (hz : w.heap.size ≤ base) (he : b' = b) (hb : Below w.heap.size w w') : RetOwnB boolR E l b w (.returned (.tuple #[v, .bool b'])) w' := by
  have ho := own_bools h
  obtain ⟨A, n, c, hv, _⟩ := ho.form
  subst hv
  exact RetOwnB.mk ho (fun k hk => Nat.le_trans hz (h.lt k (by simpa using hk)).1) he hb
theorem nextF_mem {i : Ins} {p s : Int} : s ∈ nextF i p ↔ (i.1 = 10 ∧ s = i.2) ∨ (i.1 = 11 ∧ (s = p + 1 ∨ s = i.2)) ∨ (i.1 ≠ 10 ∧ i.1 ≠ 11 ∧ i.1 ≠ 13 ∧ i.1 ≠ 14 ∧ i.1 ≠ 16 ∧ i.1 ≠ 18 ∧ s = p + 1) := by
  unfold nextF
  by_cases h10 : i.1 = 10
  · rw [if_pos h10]; simp [h10]
  rw [if_neg h10]
  by_cases h11 : i.1 = 11
  · rw [if_pos h11]
    simp only [h10, h11, false_and, true_and, false_or, ne_eq, not_true_eq_false, and_false, or_false]
    split
    · simp
    · split
      · rename_i e; simp [e]
      · simp [or_comm]
  rw [if_neg h11]
  split
  · rename_i h
    simp only [List.not_mem_nil, false_iff]
    omega
  · simp only [List.mem_singleton]
    constructor
    · intro h; right; right; omega
    · omega
end Go.Proofs.YtgoinmdnpaknpaaGreat
