/- A code in memory of the call's own, with a bool behind it: what a call returns. Plain lemmas. -/
import Derived.Test.YtmnkgcjbckamnaaGreatThread
import Derived.Test.YtmnkgcjbckamnaaGreatTyIm
set_option linter.unusedVariables false
set_option linter.unusedSimpArgs false
set_option maxRecDepth 100000
namespace Go.Proofs.YtmnkgcjbckamnaaGreat
open Go.RowKit
def RetRS (x0 x1 : Int) (s2 : List Int) (s3 : List Ins) (s4 : List Row) (b : Bool) (w : World) (e : Ending) (w' : World) : Prop :=
  ∃ A2 n2 c2 A3 n3 c3 A4 n4 c4, e = .returned (.tuple #[.agg #[.int .i64 x0, .int .i64 x1, .slice A2 n2 c2, .slice A3 n3 c3, .slice A4 n4 c4], .bool b]) ∧ Sl intR w' 0 w'.heap.size A2 n2 c2 s2 ∧ Sl InsR w' 0 w'.heap.size A3 n3 c3 s3 ∧ Sl RowR w' 0 w'.heap.size A4 n4 c4 s4 ∧ Below w.heap.size w w'
def RetRO (x0 x1 : Int) (s2 : List Int) (s3 : List Ins) (s4 : List Row) (b : Bool) (w : World) (e : Ending) (w' : World) : Prop :=
  ∃ A2 n2 c2 A3 n3 c3 A4 n4 c4 F2 F3 F4, e = .returned (.tuple #[.agg #[.int .i64 x0, .int .i64 x1, .slice A2 n2 c2, .slice A3 n3 c3, .slice A4 n4 c4], .bool b]) ∧ OwnSl intR w' 3 F2 (.slice A2 n2 c2) s2 ∧ OwnSl InsR w' 119 F3 (.slice A3 n3 c3) s3 ∧ OwnSl RowR w' 97 F4 (.slice A4 n4 c4) s4 ∧
    (F2 ++ (F3 ++ F4)).Nodup ∧ (∀ k, k ∈ F2 ++ (F3 ++ F4) → w.heap.size ≤ k) ∧ Below w.heap.size w w'
theorem RetRO.toS {x0 x1 : Int} {s2 : List Int} {s3 : List Ins} {s4 : List Row} {b : Bool} {w : World} {e : Ending} {w' : World} (h : RetRO x0 x1 s2 s3 s4 b w e w') : RetRS x0 x1 s2 s3 s4 b w e w' := by
  obtain ⟨A2, n2, c2, A3, n3, c3, A4, n4, c4, F2, F3, F4, rfl, o2, o3, o4, _, _, hb⟩ := h
  exact ⟨A2, n2, c2, A3, n3, c3, A4, n4, c4, rfl, o2.sl, o3.sl, o4.sl, hb⟩
theorem RetRO.mk {w w' : World} {B : Nat} {x0 x1 : Int} {s2 : List Int} {s3 : List Ins} {s4 : List Row} {b : Bool} {A2 A3 A4 : Option Addr} {n2 c2 n3 c3 n4 c4 : Nat} (h : CdRows w' B (.slice A2 n2 c2) (.slice A3 n3 c3) (.slice A4 n4 c4) s2 s3 s4) (hB : w.heap.size ≤ B) (i2 : ∀ x, x ∈ s2 → I64 x) (i3 : ∀ x, x ∈ s3 → okIns x) (i4 : ∀ x, x ∈ s4 → I64 x.1 ∧ I64 x.2.1 ∧ I64 x.2.2) (hb : Below w.heap.size w w') :
    RetRO x0 x1 s2 s3 s4 b w (.returned (.tuple #[.agg #[.int .i64 x0, .int .i64 x1, .slice A2 n2 c2, .slice A3 n3 c3, .slice A4 n4 c4], .bool b])) w' := by
  refine ⟨A2, n2, c2, A3, n3, c3, A4, n4, c4, _, _, _, rfl, own_ints h.r2 i2, own_flat h.r3 (fun x hx => ins_own (i3 x hx)), own_flat h.r4 (fun x hx => row_own (i4 x hx)), ?_, ?_, hb⟩
  · rw [List.nodup_append, List.nodup_append]
    have nd : ∀ o : Option Nat, o.toList.Nodup := fun o => by cases o <;> simp
    refine ⟨nd _, ⟨nd _, nd _, ?_⟩, ?_⟩
    · intro a ha b hb e
      subst e
      exact h.d34 a (by simpa using ha) (by simpa using hb)
    · intro a ha b hb e
      subst e
      rcases List.mem_append.1 hb with hb | hb
      · exact h.d23 a (by simpa using ha) (by simpa using hb)
      · exact h.d24 a (by simpa using ha) (by simpa using hb)
  · intro k hk
    rcases List.mem_append.1 hk with hk | hk
    · exact Nat.le_trans hB (World.ownsRow.lt h.r2 k (by simpa using hk)).1
    · rcases List.mem_append.1 hk with hk | hk
      · exact Nat.le_trans hB (World.ownsRow.lt h.r3 k (by simpa using hk)).1
      · exact Nat.le_trans hB (World.ownsRow.lt h.r4 k (by simpa using hk)).1
theorem RetRO.none {w w' : World} (hb : Below w.heap.size w w') : RetRO 0 0 [] [] [] false w (.returned (.tuple #[.agg #[.int .i64 0, .int .i64 0, .slice none 0 0, .slice none 0 0, .slice none 0 0], .bool false])) w' :=
  RetRO.mk (B := w.heap.size) ⟨IntRow.nil_ _ _, InsRow.nil_ _ _, by unfold RowsRow; simpa [encL] using World.ownsRow_nil _ _ _ _, fun _ h => (by cases h), fun _ h => (by cases h), fun _ h => (by cases h)⟩ (Nat.le_refl _) (fun _ h => by simp at h) (fun _ h => by simp at h) (fun _ h => by simp at h) hb
end Go.Proofs.YtmnkgcjbckamnaaGreat
