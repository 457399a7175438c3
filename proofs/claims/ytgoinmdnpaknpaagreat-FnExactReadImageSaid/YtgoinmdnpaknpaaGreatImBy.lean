/- An image as bytes: plain law. -/
import Derived.Test.YtgoinmdnpaknpaaGreatCdC
import Derived.Test.YtgoinmdnpaknpaaGreatSumW
import Derived.Test.YtgoinmdnpaknpaaGreatLiveA
set_option linter.unusedVariables false
set_option linter.unusedSimpArgs false
set_option maxRecDepth 100000
namespace Go.Proofs.YtgoinmdnpaknpaaGreat
open Go.RowKit
def imC (l : List Code) : List UInt8 := (l.map cbL).flatten
def imL (x : Image) : List UInt8 := uB x.length ++ imC x
def endB (s : Int) : List UInt8 := [UInt8.ofNat (s / 256).toNat, UInt8.ofNat (s % 256).toNat, 1]
/-- An image's bytes. -/
def imS (x : Image) : List UInt8 := imL x ++ endB (sumF (imL x))
noncomputable def imR (x : Image) : List UInt8 × Bool := if (goodI x && decide ((imS x).length ≤ 2000)) = true then (imS x, true) else ([], false)
theorem imR_no {x : Image} (h : goodI x = false) : imR x = ([], false) := by unfold imR; rw [h]; rfl
theorem imR_long {x : Image} (h : goodI x = true) (hl : ¬ (imS x).length ≤ 2000) : imR x = ([], false) := by unfold imR; rw [if_neg (by rw [h]; simpa using hl)]
theorem imR_yes {x : Image} (h : goodI x = true) (hl : (imS x).length ≤ 2000) : imR x = (imS x, true) := by unfold imR; rw [if_pos (by rw [h]; simpa using hl)]
theorem imC_succ {l : List Code} {k : Nat} (hk : k < l.length) : imC (l.take (k + 1)) = imC (l.take k) ++ cbL l[k] := by
  unfold imC; rw [List.take_succ_eq_append_getElem hk, List.map_append, List.flatten_append]; simp only [List.map_cons, List.map_nil, List.flatten_cons, List.flatten_nil, List.append_nil]
theorem imS_len (x : Image) : (imS x).length = (imL x).length + 3 := by unfold imS endB; simp
/-- Each code of a good image is one that is put. -/
theorem good_cbB {x : Image} (hg : goodI x = true) {c : Code} (hc : c ∈ x) : cbB c = true := by
  obtain ⟨h1, _, h3⟩ := goodI_iff.1 hg
  have hsz := sizedB_mem h1 c hc
  have hf := h3 c hc
  obtain ⟨hn, _, hr, _⟩ := codeF_0 hf
  have hs : c.2.2.1.all (siteB x) = true := by
    by_cases h : c.2.2.1.all (siteB x) = true
    · exact h
    · rw [codeF_2 hn (by simpa using h)] at hf; omega
  have hx := sizedB_len h1
  unfold cbB
  rw [hsz, hr]
  simp only [Bool.true_and]
  rw [List.all_eq_true] at hs ⊢
  intro n hn
  have h2 := hs n hn
  unfold siteB at h2
  rw [Bool.and_eq_true] at h2
  have h4 := inB_iff.1 h2.1
  exact inB_iff.2 (by omega)
theorem le_sum_mem {l : List Nat} {a : Nat} (h : a ∈ l) : a ≤ l.sum := by
  induction l with
  | nil => simp at h
  | cons b l ih =>
    rcases List.mem_cons.1 h with rfl | h
    · simp only [List.sum_cons]; omega
    · have := ih h; simp only [List.sum_cons]; omega
/-- A code that is too long makes the image too long. -/
theorem imS_one {x : Image} {k : Nat} (hk : k < x.length) (hl : ¬ (cbL x[k]).length ≤ 2000) : ¬ (imS x).length ≤ 2000 := by
  rw [imS_len]
  unfold imL imC
  have h1 : (cbL x[k]).length ≤ ((x.map cbL).flatten).length := by
    rw [List.length_flatten]
    have hm : (cbL x[k]).length ∈ ((x.map cbL).map List.length) := List.mem_map.2 ⟨_, List.mem_map.2 ⟨_, List.getElem_mem hk, rfl⟩, rfl⟩
    exact le_sum_mem hm
  rw [List.length_append]
  omega
end Go.Proofs.YtgoinmdnpaknpaaGreat
