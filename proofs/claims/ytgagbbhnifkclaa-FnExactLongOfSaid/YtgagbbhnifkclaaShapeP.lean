/- A function's blocks, said in two ways: each statement stands just once; or as many as there are statements, and in order. Plain law. -/
import Derived.Test.YtgagbbhnifkclaaBlocks
set_option linter.unusedVariables false
set_option linter.unusedSimpArgs false
namespace Go.Proofs.Ytgagbbhnifkclaa
open Go.RowKit

def ordA (ss : List Stmt) (b : List Int) : List Int := ordF ss (ss.length + 1) b
def idB (l : List Int) : Bool := (List.range l.length).all fun k => l.getD k 0 == (k : Int)
theorem ordF_A {ss : List Stmt} (ha : okAll ss) {f lo : Nat} {b : List Int} (hb : okB ss lo b) (hf : ss.length ≤ lo + f) : ordF ss f b = ordA ss b :=
  ordF_fuel ha f (ss.length + 1) lo b hb hf (by omega)
theorem ordF_sub (ss : List Stmt) (f : Nat) : ∀ (b : List Int), b.Sublist (ordF ss (f + 1) b)
  | [] => by simp
  | n :: b => by
    rw [ordF_cons]
    refine List.Sublist.cons_cons n ?_
    refine (ordF_sub ss f b).trans ?_
    exact (List.sublist_append_right _ _).trans (List.sublist_append_right _ _)
theorem ordA_sub (ss : List Stmt) (b : List Int) : b.Sublist (ordA ss b) := ordF_sub ss _ b
/-- The blocks of a statement that stands in the order stand in it, in order. -/
theorem ordF_in {ss : List Stmt} (ha : okAll ss) : ∀ (f lo : Nat) (b : List Int), okB ss lo b → ss.length ≤ lo + f → ∀ i, i ∈ ordF ss f b → (ordA ss (thenOf ss i)).Sublist (ordF ss f b) ∧ (ordA ss (elseOf ss i)).Sublist (ordF ss f b) := by
  intro f
  induction f with
  | zero => intro lo b _ _ i hi; simp [ordF] at hi
  | succ f ih =>
    intro lo b hb hf
    induction b with
    | nil => intro i hi; rw [ordF_nil] at hi; simp at hi
    | cons n b ihb =>
      have hn := hb n (List.mem_cons_self ..)
      have hn2 : n = ((n.toNat : Nat) : Int) := by omega
      obtain ⟨a1, a2⟩ := ha n.toNat (by omega)
      rw [← hn2] at a1 a2
      have E1 := ordF_A ha (f := f) a1 (by omega)
      have E2 := ordF_A ha (f := f) a2 (by omega)
      intro i hi
      rw [ordF_cons] at hi ⊢
      have s1 : (ordF ss f (thenOf ss n)).Sublist (n :: (ordF ss f (thenOf ss n) ++ (ordF ss f (elseOf ss n) ++ ordF ss (f + 1) b))) := (List.sublist_append_left _ _).trans (List.sublist_cons_self _ _)
      have s2 : (ordF ss f (elseOf ss n)).Sublist (n :: (ordF ss f (thenOf ss n) ++ (ordF ss f (elseOf ss n) ++ ordF ss (f + 1) b))) := ((List.sublist_append_left _ _).trans (List.sublist_append_right _ _)).trans (List.sublist_cons_self _ _)
      have s3 : (ordF ss (f + 1) b).Sublist (n :: (ordF ss f (thenOf ss n) ++ (ordF ss f (elseOf ss n) ++ ordF ss (f + 1) b))) := ((List.sublist_append_right _ _).trans (List.sublist_append_right _ _)).trans (List.sublist_cons_self _ _)
      rcases List.mem_cons.1 hi with rfl | hi
      · rw [← E1, ← E2]; exact ⟨s1, s2⟩
      rcases List.mem_append.1 hi with hi | hi
      · have := ih _ _ a1 (by omega) i hi; exact ⟨this.1.trans s1, this.2.trans s1⟩
      rcases List.mem_append.1 hi with hi | hi
      · have := ih _ _ a2 (by omega) i hi; exact ⟨this.1.trans s2, this.2.trans s2⟩
      · have := ihb (fun m hm => hb m (List.mem_cons_of_mem _ hm)) i hi; exact ⟨this.1.trans s3, this.2.trans s3⟩
/-- What stands in the order stands in a block. -/
theorem ordF_blk {ss : List Stmt} (ha : okAll ss) : ∀ (f lo : Nat) (b : List Int), okB ss lo b → ∀ i, i ∈ ordF ss f b → i ∈ b ∨ ∃ j, j < ss.length ∧ (i ∈ thenOf ss (j : Int) ∨ i ∈ elseOf ss (j : Int)) := by
  intro f
  induction f with
  | zero => intro lo b _ i hi; simp [ordF] at hi
  | succ f ih =>
    intro lo b hb
    induction b with
    | nil => intro i hi; rw [ordF_nil] at hi; simp at hi
    | cons n b ihb =>
      have hn := hb n (List.mem_cons_self ..)
      have hn2 : n = ((n.toNat : Nat) : Int) := by omega
      obtain ⟨a1, a2⟩ := ha n.toNat (by omega)
      rw [← hn2] at a1 a2
      intro i hi
      rw [ordF_cons] at hi
      rcases List.mem_cons.1 hi with rfl | hi
      · exact Or.inl (List.mem_cons_self ..)
      rcases List.mem_append.1 hi with hi | hi
      · rcases ih _ _ a1 i hi with h | h
        · exact Or.inr ⟨n.toNat, by omega, Or.inl (by rw [← hn2]; exact h)⟩
        · exact Or.inr h
      rcases List.mem_append.1 hi with hi | hi
      · rcases ih _ _ a2 i hi with h | h
        · exact Or.inr ⟨n.toNat, by omega, Or.inr (by rw [← hn2]; exact h)⟩
        · exact Or.inr h
      · rcases ihb (fun m hm => hb m (List.mem_cons_of_mem _ hm)) i hi with h | h
        · exact Or.inl (List.mem_cons_of_mem _ h)
        · exact Or.inr h
/-! ### counts -/
def sumTo (N : Nat) (f : Nat → Nat) : Nat := ((List.range N).map f).sum
theorem sumTo_succ (N : Nat) (f : Nat → Nat) : sumTo (N + 1) f = sumTo N f + f N := by simp [sumTo, List.range_succ]
theorem sumTo_add (N : Nat) (f g : Nat → Nat) : sumTo N (fun j => f j + g j) = sumTo N f + sumTo N g := by
  induction N with
  | zero => rfl
  | succ N ih => rw [sumTo_succ, sumTo_succ, sumTo_succ, ih]; omega
theorem sumTo_one (N x : Nat) : sumTo N (fun j => if x = j then 1 else 0) = if x < N then 1 else 0 := by
  induction N with
  | zero => rfl
  | succ N ih =>
    rw [sumTo_succ, ih]
    by_cases h1 : x < N
    · rw [if_pos h1, if_neg (by omega), if_pos (by omega)]
    · by_cases h2 : x = N
      · rw [if_neg h1, if_pos h2, if_pos (by omega)]
      · rw [if_neg h1, if_neg h2, if_neg (by omega)]
theorem sumTo_zero (N : Nat) : sumTo N (fun _ => 0) = 0 := by
  induction N with
  | zero => rfl
  | succ N ih => rw [sumTo_succ, ih]
theorem sumTo_count (N : Nat) : ∀ (L : List Int), (∀ x, x ∈ L → 0 ≤ x ∧ x < (N : Int)) → sumTo N (fun j => L.count (j : Int)) = L.length
  | [], _ => by
    have : sumTo N (fun j => ([] : List Int).count (j : Int)) = sumTo N (fun _ => 0) := rfl
    rw [this, sumTo_zero]; rfl
  | x :: L, h => by
    have hx := h x (List.mem_cons_self ..)
    have e : (fun j : Nat => (x :: L).count (j : Int)) = fun j : Nat => L.count (j : Int) + if x.toNat = j then 1 else 0 := by
      funext j
      rw [List.count_cons]
      congr 1
      by_cases hj : x.toNat = j
      · rw [if_pos hj, if_pos (by simp; omega)]
      · rw [if_neg hj, if_neg (by simp; omega)]
    rw [e, sumTo_add, sumTo_count N L (fun y hy => h y (List.mem_cons_of_mem _ hy)), sumTo_one, if_pos (by omega), List.length_cons]
theorem sumTo_ge {N : Nat} {f : Nat → Nat} (h : ∀ j, j < N → 1 ≤ f j) : N ≤ sumTo N f := by
  induction N with
  | zero => omega
  | succ N ih => rw [sumTo_succ]; have := ih (fun j hj => h j (by omega)); have := h N (by omega); omega
theorem sumTo_all {N : Nat} {f : Nat → Nat} (h : ∀ j, j < N → 1 ≤ f j) (hs : sumTo N f = N) : ∀ j, j < N → f j = 1 := by
  induction N with
  | zero => intro j hj; omega
  | succ N ih =>
    rw [sumTo_succ] at hs
    have h1 := sumTo_ge (N := N) (f := f) (fun j hj => h j (by omega))
    have h2 := h N (by omega)
    intro j hj
    by_cases e : j = N
    · subst e; omega
    · exact ih (fun j hj => h j (by omega)) (by omega) j (by omega)
theorem sumTo_ones {N : Nat} {f : Nat → Nat} (h : ∀ j, j < N → f j = 1) : sumTo N f = N := by
  induction N with
  | zero => rfl
  | succ N ih => rw [sumTo_succ, ih (fun j hj => h j (by omega)), h N (by omega)]
theorem catTo_len (body : List Int) (ss : List Stmt) : ∀ k, k ≤ ss.length → (catTo body ss (1 + 2 * k)).length = body.length + ((ss.take k).map fun s => s.2.2.2.1.length + s.2.2.2.2.length).sum
  | 0, _ => by simp [catTo, blkAt]
  | k + 1, h => by
    have ih := catTo_len body ss k (by omega)
    rw [show 1 + 2 * (k + 1) = (1 + 2 * k) + 1 + 1 by omega, catTo_succ, catTo_succ, List.length_append, List.length_append, ih, sum_take_succ (f := fun s : Stmt => s.2.2.2.1.length + s.2.2.2.2.length) (by omega)]
    have o1 : blkAt body ss (1 + 2 * k) = ss[k].2.2.2.1 := by
      unfold blkAt thenOf; rw [if_neg (by omega), if_pos (by omega), show (1 + 2 * k - 1) / 2 = k by omega]
      simp only [Int.toNat_natCast, List.getElem?_eq_getElem (by omega : k < ss.length), Option.map_some, Option.getD_some]
    have o2 : blkAt body ss (1 + 2 * k + 1) = ss[k].2.2.2.2 := by
      unfold blkAt elseOf; rw [if_neg (by omega), if_neg (by omega), show (1 + 2 * k + 1 - 1) / 2 = k by omega]
      simp only [Int.toNat_natCast, List.getElem?_eq_getElem (by omega : k < ss.length), Option.map_some, Option.getD_some]
    rw [o1, o2]; omega
theorem catTo_all (body : List Int) (ss : List Stmt) : (catTo body ss (1 + 2 * ss.length)).length = body.length + cntB ss 0 := by
  rw [catTo_len body ss _ (Nat.le_refl _), List.take_length]; simp [cntB]
theorem mem_catTo {body : List Int} {ss : List Stmt} {k : Nat} {x : Int} : x ∈ catTo body ss k ↔ ∃ i, i < k ∧ x ∈ blkAt body ss i := by
  unfold catTo; simp [List.mem_flatMap]
theorem blkAt_then (body : List Int) (ss : List Stmt) (j : Nat) : blkAt body ss (2 * j + 1) = thenOf ss (j : Int) ∧ ownAt (2 * j + 1) = (j : Int) := by
  unfold blkAt ownAt; rw [if_neg (by omega), if_pos (by omega), if_neg (by omega), show (2 * j + 1 - 1) / 2 = j by omega]; exact ⟨rfl, rfl⟩
theorem blkAt_else (body : List Int) (ss : List Stmt) (j : Nat) : blkAt body ss (2 * j + 2) = elseOf ss (j : Int) ∧ ownAt (2 * j + 2) = (j : Int) := by
  unfold blkAt ownAt; rw [if_neg (by omega), if_neg (by omega), if_neg (by omega), show (2 * j + 2 - 1) / 2 = j by omega]; exact ⟨rfl, rfl⟩
theorem blkOk_iff {N : Nat} {b : List Int} {o : Int} (ho : -1 ≤ o) : blkOk N b o = true ↔ (∀ x, x ∈ b → o < x ∧ x < (N : Int)) ∧ b.Pairwise (· < ·) := by
  unfold blkOk
  rw [Bool.and_eq_true, risB_pw, List.all_eq_true]
  constructor
  · rintro ⟨⟨h1, h2⟩, h3⟩
    exact ⟨fun x hx => ⟨by simpa using h3 x hx, by have := h1 x hx; omega⟩, h2⟩
  · rintro ⟨h1, h2⟩
    exact ⟨⟨fun x hx => by have := h1 x hx; omega, h2⟩, fun x hx => by simpa using (h1 x hx).1⟩
theorem cnts_ones {N : Nat} {L : List Int} : ((cnts N L).all fun x => inB x 1 1) = true ↔ ∀ j, j < N → L.count (j : Int) = 1 := by
  rw [List.all_eq_true]
  constructor
  · intro h j hj
    have := inB_iff.1 (h _ (List.getElem_mem (by rw [cnts_len]; exact hj)))
    rw [cnts_at hj] at this; omega
  · intro h x hx
    obtain ⟨j, hj, rfl⟩ := List.mem_map.1 hx
    rw [h j (List.mem_range.1 hj)]; rfl
/-- What the reference asks of the blocks, in words. -/
theorem blocksB_iff {body : List Int} {ss : List Stmt} : blocksB body ss = true ↔ (okB ss 0 body ∧ body.Pairwise (· < ·)) ∧ (okAll ss ∧ ∀ j, j < ss.length → (thenOf ss (j : Int)).Pairwise (· < ·) ∧ (elseOf ss (j : Int)).Pairwise (· < ·)) ∧ ∀ j, j < ss.length → (catTo body ss (1 + 2 * ss.length)).count (j : Int) = 1 := by
  unfold blocksB
  rw [Bool.and_eq_true, cnts_ones, List.all_eq_true, ← and_assoc]
  refine and_congr_left fun _ => ?_
  constructor
  · intro h
    have h0 := (blkOk_iff (by simp [ownAt])).1 (h 0 (List.mem_range.2 (by omega)))
    refine ⟨⟨fun x hx => by have := h0.1 x hx; simp [ownAt] at this; simp; omega, h0.2⟩, fun j hj => ?_, fun j hj => ?_⟩
    · have a1 := (blkOk_iff (by rw [(blkAt_then body ss j).2]; omega)).1 (h (2 * j + 1) (List.mem_range.2 (by omega)))
      have a2 := (blkOk_iff (by rw [(blkAt_else body ss j).2]; omega)).1 (h (2 * j + 2) (List.mem_range.2 (by omega)))
      rw [(blkAt_then body ss j).1, (blkAt_then body ss j).2] at a1
      rw [(blkAt_else body ss j).1, (blkAt_else body ss j).2] at a2
      exact ⟨fun x hx => by have := a1.1 x hx; simp; omega, fun x hx => by have := a2.1 x hx; simp; omega⟩
    · have a1 := (blkOk_iff (by rw [(blkAt_then body ss j).2]; omega)).1 (h (2 * j + 1) (List.mem_range.2 (by omega)))
      have a2 := (blkOk_iff (by rw [(blkAt_else body ss j).2]; omega)).1 (h (2 * j + 2) (List.mem_range.2 (by omega)))
      rw [(blkAt_then body ss j).1] at a1
      rw [(blkAt_else body ss j).1] at a2
      exact ⟨a1.2, a2.2⟩
  · rintro ⟨⟨h1, h2⟩, h3, h4⟩ i hi
    have hi := List.mem_range.1 hi
    rcases Nat.eq_zero_or_pos i with rfl | hp
    · exact (blkOk_iff (by simp [ownAt])).2 ⟨fun x hx => by have := h1 x hx; simp [ownAt]; simp at this; omega, h2⟩
    · by_cases hm : i % 2 = 1
      · obtain ⟨j, rfl⟩ : ∃ j, i = 2 * j + 1 := ⟨i / 2, by omega⟩
        rw [(blkAt_then body ss j).1, (blkAt_then body ss j).2]
        exact (blkOk_iff (by omega)).2 ⟨fun x hx => by have := (h3 j (by omega)).1 x hx; simp at this; omega, (h4 j (by omega)).1⟩
      · obtain ⟨j, rfl⟩ : ∃ j, i = 2 * j + 2 := ⟨i / 2 - 1, by omega⟩
        rw [(blkAt_else body ss j).1, (blkAt_else body ss j).2]
        exact (blkOk_iff (by omega)).2 ⟨fun x hx => by have := (h3 j (by omega)).2 x hx; simp at this; omega, (h4 j (by omega)).2⟩
theorem idB_iff {l : List Int} : idB l = true ↔ ∀ k (h : k < l.length), l[k] = (k : Int) := by
  unfold idB
  rw [List.all_eq_true]
  constructor
  · intro h k hk
    have := h k (List.mem_range.2 hk)
    simpa [List.getD, hk] using this
  · intro h k hk
    have hk := List.mem_range.1 hk
    simp [List.getD, hk, h k hk]
theorem idB_pw {l : List Int} (h : idB l = true) : l.Pairwise (· < ·) := by
  rw [idB_iff] at h
  rw [List.pairwise_iff_getElem]
  intro i j hi hj hij
  rw [h i hi, h j hj]; omega
/-- The two ways to say it. -/
theorem shape_same {body : List Int} {ss : List Stmt} : (body.length + cntB ss 0 = ss.length ∧ okB ss 0 body ∧ okAll ss ∧ idB (ordA ss body) = true ∧ (ordA ss body).length = ss.length) ↔ (blocksB body ss = true ∧ idB (ordA ss body) = true) := by
  rw [blocksB_iff]
  constructor
  · rintro ⟨h1, h2, h3, h4, h5⟩
    have hmem : ∀ j, j < ss.length → ((j : Int)) ∈ ordA ss body := fun j hj => by
      have := idB_iff.1 h4 j (by omega)
      rw [← this]; exact List.getElem_mem _
    have hpw := idB_pw h4
    refine ⟨⟨⟨h2, hpw.sublist (ordA_sub ss body)⟩, ⟨h3, fun j hj => ?_⟩, ?_⟩, h4⟩
    · have := ordF_in h3 (ss.length + 1) 0 body h2 (by omega) (j : Int) (hmem j hj)
      exact ⟨hpw.sublist ((ordA_sub ss _).trans this.1), hpw.sublist ((ordA_sub ss _).trans this.2)⟩
    · have hin : ∀ x, x ∈ catTo body ss (1 + 2 * ss.length) → 0 ≤ x ∧ x < (ss.length : Int) := by
        intro x hx
        obtain ⟨i, hi, hx⟩ := mem_catTo.1 hx
        rcases Nat.eq_zero_or_pos i with rfl | hp
        · have := h2 x hx; simp at this; omega
        · by_cases hm : i % 2 = 1
          · obtain ⟨j, rfl⟩ : ∃ j, i = 2 * j + 1 := ⟨i / 2, by omega⟩
            rw [(blkAt_then body ss j).1] at hx
            have := (h3 j (by omega)).1 x hx; omega
          · obtain ⟨j, rfl⟩ : ∃ j, i = 2 * j + 2 := ⟨i / 2 - 1, by omega⟩
            rw [(blkAt_else body ss j).1] at hx
            have := (h3 j (by omega)).2 x hx; omega
      have hsum := sumTo_count ss.length _ hin
      rw [catTo_all, h1] at hsum
      refine sumTo_all (fun j hj => ?_) hsum
      rw [Nat.succ_le_iff, List.count_pos_iff]
      rcases ordF_blk h3 (ss.length + 1) 0 body h2 (j : Int) (hmem j hj) with h | ⟨m, hm, h | h⟩
      · exact mem_catTo.2 ⟨0, by omega, h⟩
      · exact mem_catTo.2 ⟨2 * m + 1, by omega, by rw [(blkAt_then body ss m).1]; exact h⟩
      · exact mem_catTo.2 ⟨2 * m + 2, by omega, by rw [(blkAt_else body ss m).1]; exact h⟩
  · rintro ⟨⟨⟨h1, h2⟩, ⟨h3, h4⟩, h5⟩, h6⟩
    have hin : ∀ x, x ∈ catTo body ss (1 + 2 * ss.length) → 0 ≤ x ∧ x < (ss.length : Int) := by
      intro x hx
      obtain ⟨i, hi, hx⟩ := mem_catTo.1 hx
      rcases Nat.eq_zero_or_pos i with rfl | hp
      · have := h1 x hx; simp at this; omega
      · by_cases hm : i % 2 = 1
        · obtain ⟨j, rfl⟩ : ∃ j, i = 2 * j + 1 := ⟨i / 2, by omega⟩
          rw [(blkAt_then body ss j).1] at hx
          have := (h3 j (by omega)).1 x hx; omega
        · obtain ⟨j, rfl⟩ : ∃ j, i = 2 * j + 2 := ⟨i / 2 - 1, by omega⟩
          rw [(blkAt_else body ss j).1] at hx
          have := (h3 j (by omega)).2 x hx; omega
    have hsum := sumTo_count ss.length _ hin
    rw [sumTo_ones h5, catTo_all] at hsum
    have hall : ∀ j, j < ss.length → ((j : Int)) ∈ ordA ss body := by
      intro j
      induction j using Nat.strongRecOn with
      | ind j ih =>
        intro hj
        have hc : ((j : Int)) ∈ catTo body ss (1 + 2 * ss.length) := List.count_pos_iff.1 (by rw [h5 j hj]; omega)
        obtain ⟨i, hi, hx⟩ := mem_catTo.1 hc
        rcases Nat.eq_zero_or_pos i with rfl | hp
        · exact (ordA_sub ss body).subset hx
        · by_cases hm : i % 2 = 1
          · obtain ⟨m, rfl⟩ : ∃ m, i = 2 * m + 1 := ⟨i / 2, by omega⟩
            rw [(blkAt_then body ss m).1] at hx
            have := (h3 m (by omega)).1 _ hx
            exact ((ordA_sub ss _).trans (ordF_in h3 (ss.length + 1) 0 body h1 (by omega) (m : Int) (ih m (by omega) (by omega))).1).subset hx
          · obtain ⟨m, rfl⟩ : ∃ m, i = 2 * m + 2 := ⟨i / 2 - 1, by omega⟩
            rw [(blkAt_else body ss m).1] at hx
            have := (h3 m (by omega)).2 _ hx
            exact ((ordA_sub ss _).trans (ordF_in h3 (ss.length + 1) 0 body h1 (by omega) (m : Int) (ih m (by omega) (by omega))).2).subset hx
    refine ⟨hsum.symm, h1, h3, h6, ?_⟩
    have hid := idB_iff.1 h6
    have hmm := ordF_mem h3 (ss.length + 1) 0 body h1
    apply Nat.le_antisymm
    · rcases Nat.eq_zero_or_pos (ordA ss body).length with h0 | h0
      · omega
      · have := hmm ((ordA ss body)[(ordA ss body).length - 1]'(by omega)) (List.getElem_mem _)
        rw [hid _ (by omega)] at this; omega
    · rcases Nat.eq_zero_or_pos ss.length with h0 | h0
      · omega
      · obtain ⟨i, hi, he⟩ := List.getElem_of_mem (hall (ss.length - 1) (by omega))
        rw [hid i hi] at he; omega
theorem blocksB_len {body : List Int} {ss : List Stmt} (h : blocksB body ss = true) (h16 : ss.length ≤ 16) : okB ss 0 body ∧ okAll ss ∧ body.length + cntB ss 0 = ss.length := by
  have hb := blocksB_iff.1 h
  obtain ⟨⟨h1, h2⟩, ⟨h3, h4⟩, h5⟩ := hb
  refine ⟨h1, h3, ?_⟩
  have hin : ∀ x, x ∈ catTo body ss (1 + 2 * ss.length) → 0 ≤ x ∧ x < (ss.length : Int) := by
    intro x hx
    obtain ⟨i, hi, hx⟩ := mem_catTo.1 hx
    rcases Nat.eq_zero_or_pos i with rfl | hp
    · have := h1 x hx; simp at this; omega
    · by_cases hm : i % 2 = 1
      · obtain ⟨j, rfl⟩ : ∃ j, i = 2 * j + 1 := ⟨i / 2, by omega⟩
        rw [(blkAt_then body ss j).1] at hx
        have := (h3 j (by omega)).1 x hx; omega
      · obtain ⟨j, rfl⟩ : ∃ j, i = 2 * j + 2 := ⟨i / 2 - 1, by omega⟩
        rw [(blkAt_else body ss j).1] at hx
        have := (h3 j (by omega)).2 x hx; omega
  have hsum := sumTo_count ss.length _ hin
  rw [sumTo_ones h5, catTo_all] at hsum
  exact hsum.symm
theorem ord_len {ss : List Stmt} {b : List Int} {lo : Nat} (ha : okAll ss) (hb : okB ss lo b) (hl : b.length + cntB ss lo ≤ 16) (f : Nat) : (ordF ss f b).length ≤ 65536 := by
  have := ordF_len ha f lo b hb
  have h2 : (2 : Nat) ^ (b.length + cntB ss lo) ≤ 2 ^ 16 := Nat.pow_le_pow_right (by omega) hl
  omega
end Go.Proofs.Ytgagbbhnifkclaa
