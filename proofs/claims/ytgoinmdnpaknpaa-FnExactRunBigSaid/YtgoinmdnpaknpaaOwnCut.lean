/- A shorter piece of an owned slice. No program. -/
import Derived.Test.YtgoinmdnpaknpaaKit1
set_option linter.unusedVariables false
set_option linter.unusedSimpArgs false
set_option maxRecDepth 100000
namespace Go.Proofs.Ytgoinmdnpaknpaa
open Go.RowKit
/-- A shorter piece of an owned slice, from its head on. -/
theorem OwnSl.cut {α : Type} {R : Rp α} {w : World} {e : TypeId} {F : List Nat} {g n c : Nat} {l : List α} (h : OwnSl R w e F (.slice (some ⟨g, 0, none⟩) n c) l) (m : Nat) (hm : m ≤ l.length) :
    ∃ F', OwnSl R w e F' (.slice (some ⟨g, 0, none⟩) m c) (l.take m) ∧ ∀ k, k ∈ F' → k ∈ F := by
  obtain ⟨csl, Fs, h1, h2, rfl, hn⟩ := h
  have hl := h2.len
  have hcs := all3_len h2
  have hlm : (l.take m).length = m := by rw [List.length_take]; omega
  have h3 : All3 (R.own w) (Fs.take m) (csl.take m) (l.take m) := by
    have : ∀ (m : Nat) (xs : List (List Nat)) (ys : List (List Value)) (zs : List α), All3 (R.own w) xs ys zs → All3 (R.own w) (xs.take m) (ys.take m) (zs.take m) := by
      intro m
      induction m with
      | zero => intro xs ys zs _; simp [All3]
      | succ m ih =>
        intro xs ys zs h
        cases xs <;> cases ys <;> cases zs <;> first | exact h.elim | exact h | exact ⟨h.1, ih _ _ _ h.2⟩
    exact this m _ _ _ h2
  have hsub : ∀ k, k ∈ (Fs.take m).flatten → k ∈ Fs.flatten := fun k hk => by
    obtain ⟨a, ha, hka⟩ := List.mem_flatten.1 hk; exact List.mem_flatten.2 ⟨a, List.mem_of_mem_take ha, hka⟩
  refine ⟨g :: (Fs.take m).flatten, ⟨csl.take m, Fs.take m, ?_, h3, rfl, ?_⟩, fun k hk => ?_⟩
  · rw [hlm]
    rcases h1.2 with ⟨h0, _⟩ | ⟨g', cap, cur, h0, hb, hg, hnc, hcm, hsz, htk⟩
    · simp at h0
    · simp only [Value.slice.injEq, Option.some.injEq, Addr.mk.injEq, and_true, true_and] at h0
      obtain ⟨rfl, h0, rfl⟩ := h0
      have hfl : (csl.take m).flatten = csl.flatten.take (m * R.size) := by
        have e1 : csl.flatten = (csl.take m).flatten ++ (csl.drop m).flatten := by rw [← List.flatten_append, List.take_append_drop]
        have e2 : (csl.take m).flatten.length = m * R.size := by rw [flatten_len (s := R.size) (fun x hx => hcs x (List.mem_of_mem_take hx)), List.length_take, Nat.min_eq_left (by omega)]
        rw [e1, ← e2, List.take_left]
      refine ⟨?_, Or.inr ⟨g, c, cur, rfl, hb, hg, by omega, hcm, hsz, ?_⟩⟩
      · rw [flatten_len (s := R.size) (fun x hx => hcs x (List.mem_of_mem_take hx)), List.length_take, Nat.min_eq_left (by omega)]
      · rw [hfl, ← htk, List.take_take, Nat.min_eq_left]
        exact Nat.mul_le_mul_right _ hm
  · have hn' := List.nodup_cons.1 (show (g :: Fs.flatten).Nodup from hn)
    refine List.nodup_cons.2 ⟨fun hx => hn'.1 (hsub g hx), ?_⟩
    have := hn'.2
    rw [← List.take_append_drop m Fs, List.flatten_append, List.nodup_append] at this
    exact this.1
  · show k ∈ g :: Fs.flatten
    rcases List.mem_cons.1 hk with rfl | hk
    · exact List.mem_cons_self ..
    · exact List.mem_cons_of_mem _ (hsub k hk)
end Go.Proofs.Ytgoinmdnpaknpaa
