/- One element of an owned slice gets other memory. Plain lemmas. -/
import Derived.Test.YthdpkcmeepabjaaKit1
set_option linter.unusedVariables false
set_option linter.unusedSimpArgs false
namespace Go.Proofs.Ythdpkcmeepabjaa
open Go.RowKit
theorem All3.swap {α β γ : Type} {P Q : α → β → γ → Prop} : ∀ {xs : List α} {ys : List β} {zs : List γ} (_ : All3 P xs ys zs) (j : Nat) (hj : j < xs.length) (a : α) (b : β) (c : γ), Q a b c →
    (∀ a b c, a ∈ xs.take j ++ xs.drop (j + 1) → P a b c → Q a b c) → All3 Q (xs.set j a) (ys.set j b) (zs.set j c)
  | x :: xs, y :: ys, z :: zs, h, 0, _, a, b, c, hq, ho => ⟨hq, h.2.mono fun u v t hu hp => ho u v t (by simpa using hu) hp⟩
  | x :: xs, y :: ys, z :: zs, h, j + 1, hj, a, b, c, hq, ho =>
    ⟨ho x y z (by simp) h.1, All3.swap (xs := xs) (ys := ys) (zs := zs) h.2 j (by simpa using hj) a b c hq fun u v t hu hp => ho u v t (by
      rcases List.mem_append.1 hu with hu | hu
      · exact List.mem_append_left _ (by simp [hu])
      · exact List.mem_append_right _ (by simpa using hu)) hp⟩
  | [], [], [], _, _, hj, _, _, _, _, _ => absurd hj (by simp)
  | [], [], _ :: _, h, _, _, _, _, _, _, _ => h.elim
  | [], _ :: _, [], h, _, _, _, _, _, _, _ => h.elim
  | [], _ :: _, _ :: _, h, _, _, _, _, _, _, _ => h.elim
  | _ :: _, [], [], h, _, _, _, _, _, _, _ => h.elim
  | _ :: _, [], _ :: _, h, _, _, _, _, _, _, _ => h.elim
  | _ :: _, _ :: _, [], h, _, _, _, _, _, _, _ => h.elim
/-- One element is taken out and put back with other blocks of its own. -/
theorem OwnSl.swap {α : Type} {R : Rp α} {w : World} {e : TypeId} {F : List Nat} {A : Option Addr} {n c : Nat} {l : List α} (h : OwnSl R w e F (.slice A n c) l) (hp : 0 < R.size) {j : Nat} (hj : j < l.length) :
    ∃ g pre cs post Fj, A = some ⟨g, 0, none⟩ ∧ n = l.length ∧ pre.length = j * R.size ∧ R.own w Fj cs l[j] ∧ w.ownsRow 0 e R.size (.slice (some ⟨g, 0, none⟩) n c) n (pre ++ cs ++ post) ∧ g ∈ F ∧ g ∉ Fj ∧ (∀ k, k ∈ Fj → k ∈ F) ∧
      ∀ w' Fj' cs' x', R.own w' Fj' cs' x' → (∀ k, k ∈ Fj' → k ∈ Fj ∨ w.heap.size ≤ k) → w'.ownsRow 0 e R.size (.slice (some ⟨g, 0, none⟩) n c) n (pre ++ cs' ++ post) → (∀ k, k ∈ F → k ≠ g → k ∉ Fj → w'.heap[k]? = w.heap[k]?) →
        ∃ F', OwnSl R w' e F' (.slice A n c) (l.set j x') ∧ ∀ k, k ∈ F' → k ∈ F ∨ k ∈ Fj' := by
  have hlt0 := h.lt
  obtain ⟨csl, Fs, h1, h2, rfl, hn⟩ := h
  have hl := h2.len
  obtain ⟨hnl, ⟨_, h0, _⟩ | ⟨g, rfl, _, _⟩⟩ := ownsRow_cases h1
  · omega
  subst hnl
  have hF : ((Value.slice (some ⟨g, 0, none⟩) l.length c).ownBlock.toList ++ Fs.flatten) = g :: Fs.flatten := rfl
  rw [hF] at hn hlt0 ⊢
  have hg := (List.nodup_cons.1 hn).1
  have hnF := (List.nodup_cons.1 hn).2
  have hjF : j < Fs.length := by omega
  have hjc : j < csl.length := by omega
  have hmem : ∀ k, k ∈ Fs[j] → k ∈ Fs.flatten := fun k hk => List.mem_flatten.2 ⟨_, List.getElem_mem hjF, hk⟩
  refine ⟨g, (csl.take j).flatten, csl[j], (csl.drop (j + 1)).flatten, Fs[j], rfl, rfl, ?_, h2.get j hjF hjc hj, ?_, List.mem_cons_self .., fun hx => hg (hmem g hx), fun k hk => List.mem_cons_of_mem _ (hmem k hk), ?_⟩
  · rw [flatten_len (s := R.size) (fun x hx => all3_len h2 x (List.mem_of_mem_take hx)), List.length_take, Nat.min_eq_left (by omega)]
  · rw [← flatten_at hjc]; exact h1
  · intro w' Fj' cs' x' ho hsub hr hk
    have hsplit : ∀ k, k ∈ (Fs.take j).flatten ∨ k ∈ (Fs.drop (j + 1)).flatten → k ∈ Fs.flatten ∧ k ∉ Fs[j] := by
      intro k hk
      have hmm : k ∈ (Fs.take j ++ Fs.drop (j + 1)).flatten := by rw [List.flatten_append]; exact List.mem_append.2 hk
      obtain ⟨a, ha, hka⟩ := List.mem_flatten.1 hmm
      refine ⟨?_, flatten_apart hnF hjF ha hka⟩
      rcases List.mem_append.1 ha with ha | ha
      · exact List.mem_flatten.2 ⟨a, List.mem_of_mem_take ha, hka⟩
      · exact List.mem_flatten.2 ⟨a, List.mem_of_mem_drop ha, hka⟩
    have hnot : ∀ k, k ∈ Fj' → k ≠ g ∧ ¬ (k ∈ (Fs.take j).flatten ∨ k ∈ (Fs.drop (j + 1)).flatten) := by
      intro k hkj
      rcases hsub k hkj with h3 | h3
      · refine ⟨?_, fun h4 => (hsplit k h4).2 h3⟩
        rintro rfl; exact hg (hmem _ h3)
      · refine ⟨?_, fun h4 => ?_⟩
        · rintro rfl; have := hlt0 _ (List.mem_cons_self ..); omega
        · have := hlt0 k (List.mem_cons_of_mem _ (hsplit k h4).1); omega
    refine ⟨g :: (Fs.set j Fj').flatten, ⟨csl.set j cs', Fs.set j Fj', ?_, All3.swap h2 j hjF Fj' cs' x' ho ?_, rfl, ?_⟩, ?_⟩
    · rw [flatten_set hjc, List.length_set]; exact hr
    · intro a b d ha hown
      refine R.ownKeep (fun k hka => ?_) hown
      have hmm : k ∈ (Fs.take j).flatten ∨ k ∈ (Fs.drop (j + 1)).flatten := by
        rw [← List.mem_append, ← List.flatten_append]; exact List.mem_flatten.2 ⟨a, ha, hka⟩
      obtain ⟨h3, h4⟩ := hsplit k hmm
      exact hk k (List.mem_cons_of_mem _ h3) (by rintro rfl; exact hg h3) h4
    · rw [flatten_set hjF]
      have hnF2 := hnF
      rw [flatten_at hjF, List.append_assoc, List.nodup_append] at hnF2
      obtain ⟨n1, n2, n3⟩ := hnF2
      rw [List.nodup_append] at n2
      obtain ⟨_, n4, n5⟩ := n2
      have hnj := R.ownNodup ho
      show List.Nodup (g :: _)
      rw [List.nodup_cons]
      refine ⟨?_, ?_⟩
      · intro hm
        rcases List.mem_append.1 hm with hm | hm
        · rcases List.mem_append.1 hm with hm | hm
          · exact hg (hsplit g (Or.inl hm)).1
          · exact (hnot g hm).1 rfl
        · exact hg (hsplit g (Or.inr hm)).1
      · rw [List.append_assoc, List.nodup_append]
        refine ⟨n1, ?_, ?_⟩
        · rw [List.nodup_append]
          exact ⟨hnj, n4, fun a ha b hb hab => (hnot a ha).2 (Or.inr (hab ▸ hb))⟩
        · intro a ha b hb hab
          subst hab
          rcases List.mem_append.1 hb with hb | hb
          · exact (hnot a hb).2 (Or.inl ha)
          · exact n3 a ha a (List.mem_append_right _ hb) rfl
    · intro k hk
      rcases List.mem_cons.1 hk with rfl | hk
      · exact Or.inl (List.mem_cons_self ..)
      · rw [flatten_set hjF] at hk
        rcases List.mem_append.1 hk with hk | hk
        · rcases List.mem_append.1 hk with hk | hk
          · exact Or.inl (List.mem_cons_of_mem _ (hsplit k (Or.inl hk)).1)
          · exact Or.inr hk
        · exact Or.inl (List.mem_cons_of_mem _ (hsplit k (Or.inr hk)).1)
end Go.Proofs.Ythdpkcmeepabjaa
