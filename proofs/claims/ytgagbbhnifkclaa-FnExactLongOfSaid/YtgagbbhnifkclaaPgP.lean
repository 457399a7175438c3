/- A good program: what the reference asks is what the program asks. Plain law. -/
import Derived.Test.YtgagbbhnifkclaaFuncI
set_option linter.unusedVariables false
set_option linter.unusedSimpArgs false
namespace Go.Proofs.Ytgagbbhnifkclaa
open Go.RowKit
def nOf (ss : List Stmt) (k : Int) : Int := (ss[k.toNat]?.map fun s => s.2.1).getD 0
def funcOkS (ps : List Int) (f : Func) : Bool := funcS ps f.1 f.2.1 f.2.2.1 f.2.2.2 && (sitesF f.2.2.2).all fun k => ps.getD (nOf f.2.2.2 k).toNat 0 == 0
def stmtOkI (fv : Int) (ps : List Int) (s : Stmt) : Bool := decide (0 ≤ s.2.1) && stmtI fv ps s.1 s.2.1 s.2.2.1 ps.length s.2.2.1.length s.2.2.2.1.length s.2.2.2.2.length
def funcOkI (ps : List Int) (f : Func) : Bool := shapeI f.1 f.2.1 f.2.2.1 f.2.2.2 && f.2.2.2.all (stmtOkI f.2.1 ps)
def goodP (fs : List Func) : Bool := inB (fs.length : Int) 1 5 && parB (paramsF fs) && ((paramsF fs).getD 0 0 == 0) && fs.all (funcOkI (paramsF fs))
theorem mem_sitesF {ss : List Stmt} {x : Int} : x ∈ sitesF ss ↔ ∃ (k : Nat) (h : k < ss.length), x = (k : Int) ∧ ss[k].1 = 3 := by
  unfold sitesF
  rw [List.mem_map]
  constructor
  · rintro ⟨⟨s, i⟩, hp, rfl⟩
    obtain ⟨h1, h2⟩ := List.mem_filter.1 hp
    have h3 := List.mem_zipIdx h1
    simp only [Nat.zero_add, Nat.sub_zero] at h3
    exact ⟨i, h3.2.1, rfl, by rw [← h3.2.2]; simpa using h2⟩
  · rintro ⟨k, h, rfl, h3⟩
    refine ⟨(ss[k], k), List.mem_filter.2 ⟨?_, by simpa using h3⟩, rfl⟩
    rw [List.mem_zipIdx_iff_getElem?]
    simp [h]
theorem sites_all {ss : List Stmt} {ps : List Int} : ((sitesF ss).all fun k => ps.getD (nOf ss k).toNat 0 == 0) = true ↔ ∀ s, s ∈ ss → s.1 = 3 → ps.getD s.2.1.toNat 0 = 0 := by
  rw [List.all_eq_true]
  constructor
  · intro h s hs h3
    obtain ⟨k, hk, rfl⟩ := List.getElem_of_mem hs
    have := h (k : Int) (mem_sitesF.2 ⟨k, hk, rfl, h3⟩)
    simpa [nOf, hk] using this
  · intro h x hx
    obtain ⟨k, hk, rfl, h3⟩ := mem_sitesF.1 hx
    have := h _ (List.getElem_mem hk) h3
    simpa [nOf, hk] using this
theorem func_same {ps : List Int} (hp : parB ps = true) (f : Func) : funcOkS ps f = funcOkI ps f := by
  obtain ⟨x0, x1, body, ss⟩ := f
  rw [Bool.eq_iff_iff]
  unfold funcOkS funcOkI funcS shapeI
  simp only
  rw [Bool.and_eq_true, sites_all]
  simp only [Bool.and_eq_true, decide_eq_true_eq]
  have hst : ∀ s, s ∈ ss → inB x1 0 6 = true → ((stmtS x1 ps s.1 s.2.1 s.2.2.1 ps.length s.2.2.1.length s.2.2.2.1.length s.2.2.2.2.length = true ∧ (s.1 = 3 → ps.getD s.2.1.toNat 0 = 0)) ↔ stmtOkI x1 ps s = true) := by
    intro s _ hv
    unfold stmtOkI
    rw [← stmt_same hv hp, Bool.and_eq_true]
    refine and_congr_right fun _ => ?_
    by_cases h3 : s.1 = 3 <;> simp [h3]
  constructor
  · rintro ⟨⟨⟨⟨⟨⟨⟨g1, g2⟩, g3⟩, g4⟩, g5⟩, g6⟩, g7⟩, g8⟩
    have hv : inB x1 0 6 = true := by have := inB_iff.1 g1; have := inB_iff.1 g2; exact inB_true (by omega)
    obtain ⟨s1, s2, s3, s4, s5⟩ := shape_same.2 ⟨g4, g6⟩
    rw [List.all_eq_true] at g7
    refine ⟨⟨⟨⟨⟨⟨⟨⟨⟨g1, g2⟩, g3⟩, g5⟩, ok_rangesB s3⟩, s1⟩, ok_inBs (lo := 0) s2⟩, s4⟩, s5, ?_⟩, ?_⟩
    · rw [List.all_eq_true]; intro s hs
      have := g7 s hs
      simp only [stOkS, Bool.and_eq_true] at this
      exact this.2
    · rw [List.all_eq_true]; intro s hs
      have := g7 s hs
      simp only [stOkS, Bool.and_eq_true] at this
      exact (hst s hs hv).1 ⟨this.1, g8 s hs⟩
  · rintro ⟨⟨⟨⟨⟨⟨⟨⟨⟨g1, g2⟩, g3⟩, g5⟩, r1⟩, s1⟩, r2⟩, s4⟩, s5, g9⟩, g8⟩
    have hv : inB x1 0 6 = true := by have := inB_iff.1 g1; have := inB_iff.1 g2; exact inB_true (by omega)
    obtain ⟨g4, g6⟩ := shape_same.1 ⟨s1, inBs_ok (lo := 0) r2, rangesB_ok r1, s4, s5⟩
    rw [List.all_eq_true] at g8 g9
    refine ⟨⟨⟨⟨⟨⟨⟨g1, g2⟩, g3⟩, g4⟩, g5⟩, g6⟩, ?_⟩, fun s hs => ((hst s hs hv).2 (g8 s hs)).2⟩
    rw [List.all_eq_true]; intro s hs
    simp only [stOkS, Bool.and_eq_true]
    exact ⟨((hst s hs hv).2 (g8 s hs)).1, g9 s hs⟩
theorem goodP_S {fs : List Func} : goodP fs = (inB (fs.length : Int) 1 5 && parB (paramsF fs) && ((paramsF fs).getD 0 0 == 0) && fs.all (funcOkS (paramsF fs))) := by
  unfold goodP
  by_cases hp : parB (paramsF fs) = true
  · rw [show funcOkI (paramsF fs) = funcOkS (paramsF fs) from funext fun f => (func_same hp f).symm]
  · have hp : parB (paramsF fs) = false := by simpa using hp
    rw [hp]; simp
end Go.Proofs.Ytgagbbhnifkclaa
