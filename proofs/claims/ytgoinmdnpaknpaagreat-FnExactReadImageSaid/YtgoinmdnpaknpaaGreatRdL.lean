/- Codes read back: the reference's top. -/
import Derived.Test.YtgoinmdnpaknpaaGreatRdK
set_option linter.unusedVariables false
set_option linter.unusedSimpArgs false
set_option maxRecDepth 100000
namespace Go.Proofs.YtgoinmdnpaknpaaGreat
open Go.RowKit
attribute [local irreducible] wpList
theorem rcR_out {s : ByteArray} {x : Int} (h : ¬ (s.size ≤ 2000 ∧ 0 ≤ x ∧ x ≤ (s.size : Int))) : rcR s x = ((0, 0, [], [], []), 0, false) :=
  rcR_no fun c e hc => h (by
    obtain ⟨_, t, rfl, h1, h2, h3⟩ := hc
    have := h2.1
    exact ⟨h1, by omega, by omega⟩)
/-- What ReadCode tells, in memory of its own. -/
def RetCO (x0 x1 : Int) (s2 : List Int) (s3 : List Ins) (s4 : List Row) (i : Int) (b : Bool) (w : World) (e : Ending) (w' : World) : Prop :=
  ∃ A2 n2 c2 A3 n3 c3 A4 n4 c4 F2 F3 F4, e = .returned (.tuple #[.agg #[.int .i64 x0, .int .i64 x1, .slice A2 n2 c2, .slice A3 n3 c3, .slice A4 n4 c4], .int .i64 i, .bool b]) ∧ OwnSl intR w' 3 F2 (.slice A2 n2 c2) s2 ∧ OwnSl InsR w' 67 F3 (.slice A3 n3 c3) s3 ∧ OwnSl RowR w' 71 F4 (.slice A4 n4 c4) s4 ∧
    (F2 ++ (F3 ++ F4)).Nodup ∧ (∀ k, k ∈ F2 ++ (F3 ++ F4) → w.heap.size ≤ k) ∧ Below w.heap.size w w'
/-- The same, as a reading alone. -/
def RetCS (x0 x1 : Int) (s2 : List Int) (s3 : List Ins) (s4 : List Row) (i : Int) (b : Bool) (w : World) (e : Ending) (w' : World) : Prop :=
  ∃ A2 n2 c2 A3 n3 c3 A4 n4 c4, e = .returned (.tuple #[.agg #[.int .i64 x0, .int .i64 x1, .slice A2 n2 c2, .slice A3 n3 c3, .slice A4 n4 c4], .int .i64 i, .bool b]) ∧ Sl intR w' 0 w'.heap.size A2 n2 c2 s2 ∧ Sl InsR w' 0 w'.heap.size A3 n3 c3 s3 ∧ Sl RowR w' 0 w'.heap.size A4 n4 c4 s4 ∧ Below w.heap.size w w'
theorem RetCO.toS {x0 x1 : Int} {s2 : List Int} {s3 : List Ins} {s4 : List Row} {i : Int} {b : Bool} {w : World} {e : Ending} {w' : World} (h : RetCO x0 x1 s2 s3 s4 i b w e w') : RetCS x0 x1 s2 s3 s4 i b w e w' := by
  obtain ⟨A2, n2, c2, A3, n3, c3, A4, n4, c4, F2, F3, F4, rfl, o2, o3, o4, _, _, hb⟩ := h
  exact ⟨A2, n2, c2, A3, n3, c3, A4, n4, c4, rfl, o2.sl, o3.sl, o4.sl, hb⟩
theorem RetRC.toO {s : ByteArray} {x : Int} {w w' : World} {e : Ending} {x0 x1 : Int} {s2 : List Int} {s3 : List Ins} {s4 : List Row} {i : Int} {b : Bool} (h : RetRC s x w e w') (hz : rcR s x = ((x0, x1, s2, s3, s4), i, b)) : RetCO x0 x1 s2 s3 s4 i b w e w' := by
  unfold RetRC at h; rw [hz] at h; exact h
theorem RetCO.below {x0 x1 : Int} {s2 : List Int} {s3 : List Ins} {s4 : List Row} {i : Int} {b : Bool} {w V w' : World} {e : Ending} (h : RetCO x0 x1 s2 s3 s4 i b V e w') (hb : Below w.heap.size w V) : RetCO x0 x1 s2 s3 s4 i b w e w' := by
  obtain ⟨A2, n2, c2, A3, n3, c3, A4, n4, c4, F2, F3, F4, rfl, o2, o3, o4, nd, hF, hb'⟩ := h
  exact ⟨A2, n2, c2, A3, n3, c3, A4, n4, c4, F2, F3, F4, rfl, o2, o3, o4, nd, fun k hk => by have := hF k hk; have := hb.size; omega, below_then hb hb'⟩
theorem rcR_sz (s : ByteArray) (x : Int) : (rcR s x).1.2.2.1.length + (rcR s x).1.2.2.2.1.length + (rcR s x).1.2.2.2.2.length ≤ 1000 := by
  by_cases h : ∃ ce : Code × Nat, isAt s x ce.1 ce.2
  · unfold rcR; rw [dif_pos h]
    have h1 := (Classical.choose_spec h).1
    obtain ⟨⟨⟨x0, x1, ss, is, rs⟩, e⟩, he⟩ : ∃ z, Classical.choose h = z := ⟨_, rfl⟩
    rw [he] at h1 ⊢
    obtain ⟨_, _, q2, q3, q4, _⟩ := cbB_parts h1
    simp only; omega
  · unfold rcR; rw [dif_neg h]; simp
end Go.Proofs.YtgoinmdnpaknpaaGreat
