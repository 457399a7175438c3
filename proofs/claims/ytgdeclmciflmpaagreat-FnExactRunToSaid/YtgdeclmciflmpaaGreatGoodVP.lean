/- Whether a machine is good: plain law. -/
import Derived.Test.YtgdeclmciflmpaaGreatGoodF
import Derived.Test.YtgdeclmciflmpaaGreatThreadP
set_option linter.unusedVariables false
set_option linter.unusedSimpArgs false
set_option maxRecDepth 100000
namespace Go.Proofs.YtgdeclmciflmpaaGreat
open Go.RowKit
def frOff (f : Frame) : Bool := f.2.2.2.2.2.2.2.2.2.2
/-- Of a frame at an instruction i with a height h and m numbers on its pile: does it fit what lies above it? -/
def linkB (x : Image) (sites : List Int) (i : Ins) (h m : Int) : Option Frame → Bool
  | none => decide (m = h)
  | some g => if i.1 = 7 ∧ frOff g = false ∧ i.2 = g.2.1 then decide (m = h - parF x i.2) else if i.1 = 17 ∧ frOff g = true ∧ sites.getD i.2.toNat 0 = g.2.1 then decide (m = h) else false
def noFr : Frame := (0, 0, 0, [], [], [], 0, 0, 0, 0, false)
noncomputable def vfB (x : Image) (fs : List Frame) (k : Nat) : Bool :=
  frB x (fs.getD k noFr) && !(frOff (fs.getD k noFr) && k == 0) &&
    linkB x (codeD x (fs.getD k noFr).2.1).2.2.1 (insAt (codeD x (fs.getD k noFr).2.1).2.2.2.1 (fs.getD k noFr).2.2.1) (hv (checkH x (codeD x (fs.getD k noFr).2.1)) (fs.getD k noFr).2.2.1) ((fs.getD k noFr).2.2.2.1.length : Int) fs[k + 1]?
def preB (tr : List Int) (x2 x3 x4 x5 : Int) : Bool := tr.all small && small x4 && inB x2 0 10 && inB x3 0 4 && inB x5 0 1000000
def cntB (x3 n : Int) : Bool := !((x3 == 0 && n == 0) || (x3 != 0 && x3 != 4 && decide (n > 0)))
noncomputable def vmB (x : Image) (fs : List Frame) (tr : List Int) (x2 x3 x4 x5 : Int) : Bool := preB tr x2 x3 x4 x5 && cntB x3 fs.length && (List.range fs.length).all (vfB x fs)
noncomputable def goodV (x : Image) (v : Vm) : Bool := goodI x && vmB x v.1 v.2.1 v.2.2.1 v.2.2.2.1 v.2.2.2.2.1 v.2.2.2.2.2.1
noncomputable def hsF (x : Image) : List (List Int) := x.map (checkH x)
theorem hsF_len (x : Image) : (hsF x).length = x.length := by simp [hsF]
theorem hsF_at {x : Image} {k : Nat} (hk : k < x.length) : (hsF x)[k]'(by rw [hsF_len]; exact hk) = checkH x x[k] := by simp [hsF]
theorem frB_parts {x : Image} {f : Frame} (h : frB x f = true) : (0 ≤ f.2.1 ∧ f.2.1 < (x.length : Int)) ∧ (0 ≤ f.2.2.1 ∧ f.2.2.1 < ((codeD x f.2.1).2.2.2.1.length : Int)) ∧ (f.2.2.2.2.1.length : Int) = (codeD x f.2.1).2.1 ∧ (f.2.2.2.2.2.1.length : Int) = ((codeD x f.2.1).2.2.1.length : Int) := by
  unfold frB fldB at h
  simp only [Bool.and_eq_true, decide_eq_true_eq] at h
  obtain ⟨h1, ⟨⟨⟨⟨⟨⟨⟨⟨⟨_, h2⟩, _⟩, _⟩, h3⟩, h4⟩, _⟩, _⟩, _⟩, _⟩⟩ := h
  have a := inB_iff.1 h1
  have b := inB_iff.1 h2
  omega
theorem heights_at {w : World} {g n j a : Nat} {l : List (List Int)} (h : Sl (sliceR 3 intR) w 0 w.heap.size (some ⟨g, 0, none⟩) n n l) (hj : j < n) (ha : a < (l[j]'(by have := h.1; omega)).length) :
    ∃ n6 c6 b6 o6, w.cell? ⟨g, j, none⟩ = some (.slice (some ⟨b6, o6, none⟩) n6 c6) ∧ n6 = (l[j]'(by have := h.1; omega)).length ∧ w.cell? ⟨b6, o6 + a, none⟩ = some (.int .i64 ((l[j]'(by have := h.1; omega))[a])) := by
  obtain ⟨g5, o5, cs5, hg5, _, hgl, ⟨A6, n6, c6, hcs, hS6⟩, hcc⟩ := h.at_ hj
  injection hg5 with hg5
  injection hg5 with hg51 hg52
  subst hg51 hg52
  subst hcs
  have hq0 := hcc 0 (by simp)
  have e : (sliceR 3 intR).size = 1 := rfl
  rw [e] at hq0
  have L6 := hS6.lenEq
  obtain ⟨b6, o6, rfl, _, _, hq1, _⟩ := hS6.int_at (k := a) (by omega)
  exact ⟨n6, c6, b6, o6, by simpa using hq0, L6.symm, hq1⟩
theorem named_17 {x : Image} {cd : Code} (h : namedB x cd = true) (hs : cd.2.2.2.1.all insB = true) : ∀ i, i ∈ cd.2.2.2.1 → i.1 = 17 → 0 ≤ i.2 ∧ i.2 < (cd.2.2.1.length : Int) := by
  intro i hi h7
  obtain ⟨o, k⟩ := i
  simp only at h7
  subst h7
  have h1 := List.all_eq_true.1 h _ hi
  have h2 := List.all_eq_true.1 hs _ hi
  unfold insB at h2
  simp only at h2
  rw [if_neg (by omega), if_neg (by omega), if_pos (by rfl)] at h2
  have := inB_iff.1 h2
  rw [named_b (Or.inr rfl)] at h1
  simp only [decide_eq_true_eq] at h1
  exact ⟨this.1, h1⟩
theorem linkB_some {x : Image} {sites : List Int} {op nn h m : Int} {g : Frame} {a7 of_ am a17 as_ : Bool} (h1 : (op == 7) = a7) (h2 : frOff g = of_) (h3 : (nn == g.2.1) = am) (h4 : (op == 17) = a17) (h5 : (sites.getD nn.toNat 0 == g.2.1) = as_) :
    linkB x sites (op, nn) h m (some g) = if (a7 && !of_ && am) = true then decide (m = h - parF x nn) else if (a17 && of_ && as_) = true then decide (m = h) else false := by
  subst h1 h2 h3 h4 h5
  unfold linkB
  simp only
  congr 1
  · simp [and_assoc]
  · congr 1
    simp [and_assoc]
theorem all_range_succ {p : Nat → Bool} {k : Nat} (h : (List.range k).all p = true) (hk : p k = true) : (List.range (k + 1)).all p = true := by
  rw [List.range_succ, List.all_append, h]; simpa using hk
theorem vfB_at {x : Image} {fs : List Frame} {k : Nat} {f : Frame} (hk : k < fs.length) (hf : fs[k] = f) : vfB x fs k = (frB x f && !(frOff f && k == 0) && linkB x (codeD x f.2.1).2.2.1 (insAt (codeD x f.2.1).2.2.2.1 f.2.2.1) (hv (checkH x (codeD x f.2.1)) f.2.2.1) (f.2.2.2.1.length : Int) fs[k + 1]?) := by
  have e : fs.getD k noFr = f := by simp [List.getD, hk, hf]
  unfold vfB; rw [e]
end Go.Proofs.YtgdeclmciflmpaaGreat
