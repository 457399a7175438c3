/- Codes read back: the reference's top. -/
import Derived.Test.YtenpekohbedehaaRdK
set_option linter.unusedVariables false
set_option linter.unusedSimpArgs false
set_option maxRecDepth 100000
namespace Go.Proofs.Ytenpekohbedehaa
open Go.RowKit
attribute [local irreducible] wpList
theorem rcR_out {s : ByteArray} {x : Int} (h : ¬ (s.size ≤ 2000 ∧ 0 ≤ x ∧ x ≤ (s.size : Int))) : rcR s x = ((0, 0, [], [], []), 0, false) :=
  rcR_no fun c e hc => h (by
    obtain ⟨_, t, rfl, h1, h2, h3⟩ := hc
    have := h2.1
    exact ⟨h1, by omega, by omega⟩)
/-- What ReadCode tells, in memory of its own. -/
def RetCO (x0 x1 : Int) (s2 : List Int) (s3 : List Ins) (s4 : List Row) (i : Int) (b : Bool) (w : World) (e : Ending) (w' : World) : Prop :=
  ∃ A2 n2 c2 A3 n3 c3 A4 n4 c4 F2 F3 F4, e = .returned (.tuple #[.agg #[.int .i64 x0, .int .i64 x1, .slice A2 n2 c2, .slice A3 n3 c3, .slice A4 n4 c4], .int .i64 i, .bool b]) ∧ OwnSl intR w' 3 F2 (.slice A2 n2 c2) s2 ∧ OwnSl InsR w' 133 F3 (.slice A3 n3 c3) s3 ∧ OwnSl RowR w' 141 F4 (.slice A4 n4 c4) s4 ∧
    (F2 ++ (F3 ++ F4)).Nodup ∧ (∀ k, k ∈ F2 ++ (F3 ++ F4) → w.heap.size ≤ k) ∧ Below w.heap.size w w'
/-- The same, as a reading alone. -/
def RetCS (x0 x1 : Int) (s2 : List Int) (s3 : List Ins) (s4 : List Row) (i : Int) (b : Bool) (w : World) (e : Ending) (w' : World) : Prop :=
  ∃ A2 n2 c2 A3 n3 c3 A4 n4 c4, e = .returned (.tuple #[.agg #[.int .i64 x0, .int .i64 x1, .slice A2 n2 c2, .slice A3 n3 c3, .slice A4 n4 c4], .int .i64 i, .bool b]) ∧ Sl intR w' 0 w'.heap.size A2 n2 c2 s2 ∧ Sl InsR w' 0 w'.heap.size A3 n3 c3 s3 ∧ Sl RowR w' 0 w'.heap.size A4 n4 c4 s4 ∧ Below w.heap.size w w'
theorem RetCO.toS {x0 x1 : Int} {s2 : List Int} {s3 : List Ins} {s4 : List Row} {i : Int} {b : Bool} {w : World} {e : Ending} {w' : World} (h : RetCO x0 x1 s2 s3 s4 i b w e w') : RetCS x0 x1 s2 s3 s4 i b w e w' := by
  obtain ⟨A2, n2, c2, A3, n3, c3, A4, n4, c4, F2, F3, F4, rfl, o2, o3, o4, _, _, hb⟩ := h
  exact ⟨A2, n2, c2, A3, n3, c3, A4, n4, c4, rfl, o2.sl, o3.sl, o4.sl, hb⟩
theorem RetRC.toO {s : ByteArray} {x : Int} {w w' : World} {e : Ending} {x0 x1 : Int} {s2 : List Int} {s3 : List Ins} {s4 : List Row} {i : Int} {b : Bool} (h : RetRC s x w e w') (hz : rcR s x = ((x0, x1, s2, s3, s4), i, b)) : RetCO x0 x1 s2 s3 s4 i b w e w' := by
  unfold RetRC at h; rw [hz] at h; exact h
theorem RetCO.below {x0 x1 : Int} {s2 : List Int} {s3 : List Ins} {s4 : List Row} {i : Int} {b : Bool} {w V w' : World} {e : Ending} (h : RetCO x0 x1 s2 s3 s4 i b V e w') (hb : Below w.heap.size w V) : RetCO x0 x1 s2 s3 s4 i b w e w' := by
  obtain ⟨A2, n2, c2, A3, n3, c3, A4, n4, c4, F2, F3, F4, rfl, o2, o3, o4, nd, hF, hb'⟩ := h
  exact ⟨A2, n2, c2, A3, n3, c3, A4, n4, c4, F2, F3, F4, rfl, o2, o3, o4, nd, fun k hk => by have := hF k hk; have := hb.size; omega, below_then hb hb'⟩
theorem rcR_sz (s : ByteArray) (x : Int) : (rcR s x).1.2.2.1.length + (rcR s x).1.2.2.2.1.length + (rcR s x).1.2.2.2.2.length ≤ 1000 := by
  by_cases h : ∃ ce : Code × Nat, isAt s x ce.1 ce.2
  · unfold rcR; rw [dif_pos h]
    have h1 := (Classical.choose_spec h).1
    obtain ⟨⟨⟨x0, x1, ss, is, rs⟩, e⟩, he⟩ : ∃ z, Classical.choose h = z := ⟨_, rfl⟩
    rw [he] at h1 ⊢
    obtain ⟨_, _, q2, q3, q4, _⟩ := cbB_parts h1
    simp only; omega
  · unfold rcR; rw [dif_neg h]; simp
set_option maxHeartbeats 4000000 in
theorem specReadCode (w : World) (s : ByteArray) (x : Int) (hs : s.size ≤ maxLen) (hx : I64 x) (x0 x1 : Int) (s2 : List Int) (s3 : List Ins) (s4 : List Row) (i : Int) (b : Bool) (hz : rcR s x = ((x0, x1, s2, s3, s4), i, b)) :
    Calls Try.prog 8 #[.string s, .int .i64 x] w (RetCO x0 x1 s2 s3 s4 i b w) := by
  have HZ := Lib.hid hz
  clear hz
  obtain ⟨g, hg⟩ : ∃ g, inB x 0 (s.size : Int) = g := ⟨_, rfl⟩
  have HG := Lib.hid hg
  clear hg
  have hs' : s.size ≤ 9223372036854775807 := by unfold maxLen at hs; omega
  have hbad : ¬ (s.size ≤ 2000 ∧ g = true) → Hid (x0 = 0 ∧ x1 = 0 ∧ s2 = [] ∧ s3 = [] ∧ s4 = [] ∧ i = 0 ∧ b = false) := fun h => Lib.hid (by
    have h1 := HZ.out
    rw [rcR_out (fun h2 => h ⟨h2.1, by rw [← HG.out]; exact inB_true h2.2⟩)] at h1
    simp only [Prod.mk.injEq] at h1
    obtain ⟨⟨a, b, c, d, e⟩, f, g⟩ := h1
    exact ⟨a.symm, b.symm, c.symm, d.symm, e.symm, f.symm, g.symm⟩)
  have HBAD := Lib.hid hbad
  clear hbad
  by_cases hgo : s.size ≤ 2000 ∧ g = true
  rotate_left
  · obtain ⟨rfl, rfl, rfl, rfl, rfl, rfl, rfl⟩ := (HBAD.out hgo).out
    have hc : ¬ (s.size ≤ 2000) ∨ (s.size ≤ 2000 ∧ g = false) := by
      by_cases h1 : s.size ≤ 2000
      · cases g
        · exact Or.inr ⟨h1, rfl⟩
        · exact absurd ⟨h1, rfl⟩ hgo
      · exact Or.inl h1
    clear hgo HBAD
    rcases hc with h1 | ⟨h1, rfl⟩
    · have h2 : (s.size : Int) > 2000 := by omega
      go_enter Try.func8, Try.ntmps8
      go_wp2_with fail
      refine bodyPost_ret (v := .tuple #[.agg #[.int .i64 0, .int .i64 0, .slice none 0 0, .slice none 0 0, .slice none 0 0], .int .i64 0, .bool false]) (by simp [results, Try.results8, go_sem]) rfl ?_
      exact ⟨none, 0, 0, none, 0, 0, none, 0, 0, [], [], [], rfl, OwnSl.nil_ .., OwnSl.nil_ .., OwnSl.nil_ .., by simp, by simp, by exact beloA⟩
    · have h2 : ¬ (s.size : Int) > 2000 := by omega
      go_enter Try.func8, Try.ntmps8
      go_wp2_with (go_at_call 50; ((with_reducible refine (specL1In _ _ _ _).mono ?_); rintro e w2 ⟨rfl, rfl⟩; rw [HG.out]))
      refine bodyPost_ret (v := .tuple #[.agg #[.int .i64 0, .int .i64 0, .slice none 0 0, .slice none 0 0, .slice none 0 0], .int .i64 0, .bool false]) (by simp [results, Try.results8, go_sem]) rfl ?_
      exact ⟨none, 0, 0, none, 0, 0, none, 0, 0, [], [], [], rfl, OwnSl.nil_ .., OwnSl.nil_ .., OwnSl.nil_ .., by simp, by simp, by exact beloA⟩
  obtain ⟨h1, rfl⟩ := hgo
  have h2 : ¬ (s.size : Int) > 2000 := by omega
  clear HBAD
  go_enter Try.func8, Try.ntmps8
  go_wp2_with (go_at_call 50; ((with_reducible refine (specL1In _ _ _ _).mono ?_); rintro e w2 ⟨rfl, rfl⟩; rw [HG.out]))
  refine (specL12Read _ s x hs hx).mono ?_
  rintro e w1 h
  obtain ⟨A2, n2, c2, A3, n3, c3, A4, n4, c4, F2, F3, F4, rfl, o2, o3, o4, nd, hF, hb'⟩ := h.toO HZ.out
  have HZ1 := Lib.hid (show CdB w1 w.heap.size 0 0 (.slice none 0 0) (.slice none 0 0) (.slice none 0 0) from below_at hb' (by simp) (alloc_new' rfl))
  have hb0 : Below w.heap.size w w1 := below_then (show Below w.heap.size w _ by exact belA) hb'
  obtain ⟨z0, z1, z2, z3, z4⟩ := HZ1.out.cells
  have zf := blk_frozen HZ1.out
  have hRa : w.heap.size < w1.heap.size := blk_size HZ1.out
  have O2 := Lib.hid o2
  have O3 := Lib.hid o3
  have O4 := Lib.hid o4
  have ND := Lib.hid nd
  have HF := Lib.hid (show ∀ k, k ∈ F2 ++ (F3 ++ F4) → w.heap.size < k from fun k hk => by have := hF k hk; simp at this; omega)
  clear o2 o3 o4 nd hF h hb'
  go_wp2_with fail
  obtain ⟨f0, f1, f2, f3, f4⟩ := (HZ1.out.all (n0 := x0) (n1 := x1) (v2 := .slice A2 n2 c2) (v3 := .slice A3 n3 c3) (v4 := .slice A4 n4 c4)).cells
  have hfr : Fr [w.heap.size] w1 (((((w1.setCell ⟨w.heap.size, 0, none⟩ (.int .i64 x0)).setCell ⟨w.heap.size, 1, none⟩ (.int .i64 x1)).setCell ⟨w.heap.size, 2, none⟩ (.slice A2 n2 c2)).setCell ⟨w.heap.size, 3, none⟩ (.slice A3 n3 c3)).setCell ⟨w.heap.size, 4, none⟩ (.slice A4 n4 c4)) := by exact frcA
  have hap : ∀ k, k ∈ F2 ++ (F3 ++ F4) → k ∉ [w.heap.size] := fun k hk h => by have := HF.out k hk; simp at h; omega
  refine bodyPost_ret (v := .tuple #[.agg #[.int .i64 x0, .int .i64 x1, .slice A2 n2 c2, .slice A3 n3 c3, .slice A4 n4 c4], .int .i64 i, .bool b]) (by simp [results, Try.results8, go_sem, f0, f1, f2, f3, f4]) rfl ?_
  exact ⟨A2, n2, c2, A3, n3, c3, A4, n4, c4, F2, F3, F4, rfl, O2.out.fr hfr (fun k hk => hap k (List.mem_append_left _ hk)), O3.out.fr hfr (fun k hk => hap k (List.mem_append_right _ (List.mem_append_left _ hk))), O4.out.fr hfr (fun k hk => hap k (List.mem_append_right _ (List.mem_append_right _ hk))), ND.out, fun k hk => by have := HF.out k hk; omega, below_fr hb0 hfr (fun k hk => by simp at hk; omega)⟩
end Go.Proofs.Ytenpekohbedehaa
