/- Which places of a code are reached: walks of both sides. -/
import Derived.Test.YtmnkgcjbckamnaaGreatImageI
import Derived.Test.YtmnkgcjbckamnaaGreatHeightS
import Derived.Test.YtmnkgcjbckamnaaGreatKit1
set_option linter.unusedVariables false
set_option linter.unusedSimpArgs false
set_option maxRecDepth 100000
namespace Go.Proofs.YtmnkgcjbckamnaaGreat
open Go.RowKit
def liveL (l : List Int) : List Bool := l.map fun v => decide (v ≥ 0)
noncomputable def liveOk (x : Image) (k : Int) : Bool := goodI x && inB k 0 ((x.length : Int) - 1)
noncomputable def liveR (x : Image) (k : Int) : List Bool := if liveOk x k = true then liveL (checkH x (x.getD k.toNat (0, 0, [], [], []))) else []
theorem liveR_no {x : Image} {k : Int} (h : liveOk x k = false) : liveR x k = [] := by unfold liveR; rw [if_neg (by simp [h])]
theorem liveR_yes {x : Image} {j : Nat} (h : liveOk x (j : Int) = true) (hj : j < x.length) : liveR x (j : Int) = liveL (checkH x x[j]) := by
  unfold liveR; rw [if_pos h]; simp [List.getD, hj]
theorem liveL_len (l : List Int) : (liveL l).length = l.length := by simp [liveL]
theorem liveL_at {l : List Int} {k : Nat} (hk : k < l.length) : (liveL l)[k]'(by rw [liveL_len]; exact hk) = decide (l[k] ≥ 0) := by simp [liveL]
theorem liveL_succ {l : List Int} {k : Nat} (hk : k < l.length) : liveL (l.take (k + 1)) = liveL (l.take k) ++ [decide (l[k] ≥ 0)] := by
  unfold liveL; rw [List.take_succ_eq_append_getElem hk, List.map_append]; rfl
theorem codeF_0 {x : Image} {c : Code} (h : codeF x c = 0) : namedB x c = true ∧ goesB c.2.2.2.1 = true ∧ rowsB c.2.2.2.2 c.2.2.2.1.length = true ∧ ∃ l, heightsF x c.2.2.2.1 c.2.2.2.2 = some l ∧ checkH x c = l := by
  by_cases h1 : namedB x c = true
  rotate_left
  · rw [codeF_1 (by simpa using h1)] at h; omega
  by_cases h2 : c.2.2.1.all (siteB x) = true
  rotate_left
  · rw [codeF_2 h1 (by simpa using h2)] at h; omega
  by_cases h3 : goesB c.2.2.2.1 = true
  rotate_left
  · rw [codeF_3 h1 h2 (by simpa using h3)] at h; omega
  by_cases h4 : rowsB c.2.2.2.2 c.2.2.2.1.length = true
  rotate_left
  · rw [codeF_4 h1 h2 h3 (by simpa using h4)] at h; omega
  refine ⟨h1, h3, h4, ?_⟩
  have h0 := h
  rw [codeF_h h1 h2 h3 h4] at h
  cases hh : heightsF x c.2.2.2.1 c.2.2.2.2 with
  | none => rw [hh] at h; simp at h
  | some l => exact ⟨l, rfl, by unfold checkH; rw [if_pos h0, hh]; rfl⟩
theorem checkH_len {x : Image} {c : Code} (h : codeF x c = 0) : (checkH x c).length = c.2.2.2.1.length ∧ ∀ v, v ∈ checkH x c → I64 v := by
  obtain ⟨_, _, _, l, hl, e⟩ := codeF_0 h
  obtain ⟨h1, h2, h3⟩ := heights_ok hl
  rw [e]
  refine ⟨h1, fun v hvm => ?_⟩
  obtain ⟨i, hi, rfl⟩ := List.getElem_of_mem hvm
  have a := h2 _ (List.getElem_mem hi)
  have b := h3 i
  unfold hv at b
  simp [List.getD, hi] at b
  unfold I64; omega
theorem own_bools {w : World} {base : Nat} {e : TypeId} {v : Value} {l : List Bool} (h : w.ownsRow base e 1 v l.length (l.map Value.bool)) : OwnSl boolR w e v.ownBlock.toList v l := by
  refine ⟨l.map fun x => [.bool x], l.map fun _ => [], ?_, ?_, ?_, ?_⟩
  · have e1 : (l.map fun x => [Value.bool x]).flatten = l.map Value.bool := by
      clear h
      induction l with
      | nil => rfl
      | cons x l ih => simp only [List.map_cons, List.flatten_cons, ih]; rfl
    rw [e1]
    refine ⟨h.1, ?_⟩
    rcases h.2 with h | ⟨g, cap, cur, a, b, r⟩
    · exact .inl h
    · exact .inr ⟨g, cap, cur, a, Nat.zero_le _, r⟩
  · clear h
    induction l with
    | nil => trivial
    | cons x l ih => exact ⟨⟨rfl, rfl, trivial⟩, ih⟩
  · have e2 : (l.map fun _ => ([] : List Nat)).flatten = [] := by
      clear h
      induction l with
      | nil => rfl
      | cons x l ih => simp only [List.map_cons, List.flatten_cons, ih]; rfl
    rw [e2, List.append_nil]
  · cases v.ownBlock <;> simp
theorem RetOwnB.bools {E : TypeId} {l : List Bool} {b b' : Bool} {w w' : World} {v : Value} {base : Nat} (h : w'.ownsRow base E 1 v l.length (l.map Value.bool)) (hz : w.heap.size ≤ base) (he : b' = b) (hb : Below w.heap.size w w') : RetOwnB boolR E l b w (.returned (.tuple #[v, .bool b'])) w' := by
  have ho := own_bools h
  obtain ⟨A, n, c, hv, _⟩ := ho.form
  subst hv
  exact RetOwnB.mk ho (fun k hk => Nat.le_trans hz (h.lt k (by simpa using hk)).1) he hb
theorem liveR_le (x : Image) (k : Int) : (liveR x k).length ≤ 300 := by
  unfold liveR
  split
  · rename_i h
    unfold liveOk at h
    rw [Bool.and_eq_true] at h
    obtain ⟨h1, h2⟩ := h
    obtain ⟨h1, h2'⟩ := inB_iff.1 h2
    obtain ⟨j, rfl⟩ := Int.eq_ofNat_of_zero_le h1
    have hj : j < x.length := by omega
    have hg := goodI_iff.1 ‹goodI x = true›
    have hm := List.getElem_mem hj
    have := (checkH_len (hg.2.2 _ hm)).1
    have := (codeSz_all (sizedB_mem hg.1 _ hm)).2.2.2.1
    rw [liveL_len, show x.getD (j : Int).toNat (0, 0, [], [], []) = x[j] by simp [List.getD, hj]]
    omega
  · simp
end Go.Proofs.YtmnkgcjbckamnaaGreat
