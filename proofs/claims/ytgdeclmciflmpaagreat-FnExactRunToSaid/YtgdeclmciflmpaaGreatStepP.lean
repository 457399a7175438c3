/- A machine's step: what it comes to, and that a good machine stays good. Plain law. -/
import Derived.Test.YtgdeclmciflmpaaGreatGoodVP
import Derived.Test.YtgdeclmciflmpaaGreatReck
import Derived.Test.YtgdeclmciflmpaaGreatLiveA
set_option linter.unusedVariables false
set_option linter.unusedSimpArgs false
set_option maxRecDepth 100000
namespace Go.Proofs.YtgdeclmciflmpaaGreat
open Go.RowKit
/-- A machine; the frames from above. -/
structure MS where
  fs : List Frame
  tr : List Int
  used : Nat
  code : Int
  val : Int
  made : Int
  notes : List Note
def lastN (l : List Int) : Int := l.getD (l.length - 1) 0
def fPile (f : Frame) : List Int := f.2.2.2.1
def fCode (x : Image) (f : Frame) : Code := codeD x f.2.1
def fIns (x : Image) (f : Frame) : Ins := insAt (fCode x f).2.2.2.1 f.2.2.1
/-- Place and pile put anew. -/
def fGo (f : Frame) (a : Int) (p : List Int) : Frame := (f.1, f.2.1, a, p, f.2.2.2.2)
def fVars (f : Frame) (v : List Int) : Frame := (f.1, f.2.1, f.2.2.1, f.2.2.2.1, v, f.2.2.2.2.2)
def fFlags (f : Frame) (v : List Bool) : Frame := (f.1, f.2.1, f.2.2.1, f.2.2.2.1, f.2.2.2.2.1, v, f.2.2.2.2.2.2)
def fRes (f : Frame) (r : Int) : Frame := (f.1, f.2.1, f.2.2.1, f.2.2.2.1, f.2.2.2.2.1, f.2.2.2.2.2.1, r, f.2.2.2.2.2.2.2)
def fMode (f : Frame) (m : Int) : Frame := (f.1, f.2.1, f.2.2.1, f.2.2.2.1, f.2.2.2.2.1, f.2.2.2.2.2.1, f.2.2.2.2.2.2.1, m, f.2.2.2.2.2.2.2.2)
def fMvb (f : Frame) (m v b : Int) : Frame := (f.1, f.2.1, f.2.2.1, f.2.2.2.1, f.2.2.2.2.1, f.2.2.2.2.2.1, f.2.2.2.2.2.2.1, m, v, b, frOff f)
def modeOf (f : Frame) : Int := f.2.2.2.2.2.2.2.1
def valOf (f : Frame) : Int := f.2.2.2.2.2.2.2.2.1
def baseOf (f : Frame) : Int := f.2.2.2.2.2.2.2.2.2.1
def resOf (f : Frame) : Int := f.2.2.2.2.2.2.1
def padFr (x : Image) (f : Frame) : Int := padOf (fCode x f).2.2.2.2 (idxW (inRow f.2.2.1) (fCode x f).2.2.2.2)
def raiseFr (x : Image) (f : Frame) (m n : Int) : Frame := fMvb (fGo f (padFr x f) []) m n (if m = 3 then 3 else baseOf f)
/-- A new frame of code fn; given goes to the first variables. -/
def newFrm (x : Image) (id fn : Int) (given : List Int) (off : Bool) : Frame :=
  (id, fn, 0, [], given ++ List.replicate ((codeD x fn).2.1.toNat - given.length) 0, List.replicate (codeD x fn).2.2.1.length false, 0, 0, 0, 1, off)
def callM (x : Image) (most : Int) (s : MS) (f : Frame) (rest : List Frame) (fn : Int) (k : Nat) (off : Bool) : MS :=
  if most ≤ (s.fs.length : Int) then { s with code := 4 }
  else { s with fs := newFrm x s.made fn ((fPile f).drop ((fPile f).length - k)) off :: fGo f f.2.2.1 ((fPile f).take ((fPile f).length - k)) :: rest, made := s.made + 1 }
def endM (x : Image) (s : MS) (f : Frame) (rest : List Frame) : MS :=
  let s1 : MS := { s with fs := rest, notes := s.notes ++ [(3, f.1, 0)] }
  match rest with
  | [] => if modeOf f = 2 then { s1 with code := 2, val := valOf f } else if modeOf f = 3 then { s1 with code := 3, val := 0 } else { s1 with code := 1, val := resOf f }
  | b :: r => if modeOf f = 2 then { s1 with fs := raiseFr x b 2 (valOf f) :: r } else if modeOf f = 3 then { s1 with fs := raiseFr x b 3 0 :: r }
    else { s1 with fs := fGo b (b.2.2.1 + 1) (if (fIns x b).1 = 7 then fPile b ++ [resOf f] else fPile b) :: r }
def stepI (x : Image) (ins : List Int) (most : Int) (s : MS) (f : Frame) (rest : List Frame) (i : Ins) : MS :=
  let p := fPile f
  let q := p.dropLast
  let a := f.2.2.1 + 1
  if i.1 = 1 then { s with fs := fGo f a (p ++ [i.2]) :: rest }
  else if i.1 = 2 then { s with fs := fGo f a (p ++ [f.2.2.2.2.1.getD i.2.toNat 0]) :: rest }
  else if i.1 = 3 then { s with fs := fVars (fGo f a q) (f.2.2.2.2.1.set i.2.toNat (lastN p)) :: rest }
  else if i.1 = 4 then (if recB i.2 (lastN p) = true then { s with fs := fGo f a (q.dropLast ++ [recN i.2 (lastN q) (lastN p)]) :: rest } else { s with fs := raiseFr x f 2 (-1) :: rest })
  else if i.1 = 5 then (if s.used < ins.length then { s with fs := fGo f a (p ++ [ins.getD s.used 0]) :: rest, used := s.used + 1 } else { s with fs := fGo f a (p ++ [0]) :: rest })
  else if i.1 = 6 then (match rest with
    | [] => { s with fs := fGo f a (p ++ [0]) :: rest }
    | b :: r => if frOff f = true ∧ modeOf b = 2 then { s with fs := fGo f a (p ++ [valOf b]) :: fMode b (baseOf b) :: r } else { s with fs := fGo f a (p ++ [0]) :: rest })
  else if i.1 = 7 then callM x most s f rest i.2 (parF x i.2).toNat false
  else if i.1 = 8 then { s with fs := fGo f a q :: rest, tr := s.tr ++ [lastN p] }
  else if i.1 = 9 then { s with fs := fGo f a q :: rest }
  else if i.1 = 10 then { s with fs := fGo f i.2 p :: rest }
  else if i.1 = 11 then { s with fs := fGo f (if lastN p = 0 then i.2 else a) q :: rest }
  else if i.1 = 12 then { s with fs := fFlags (fGo f a p) (f.2.2.2.2.2.1.set i.2.toNat true) :: rest, notes := s.notes ++ [(1, f.1, i.2)] }
  else if i.1 = 13 then { s with fs := raiseFr x f 2 (lastN p) :: rest }
  else if i.1 = 14 then { s with fs := raiseFr x f 3 0 :: rest }
  else if i.1 = 15 then { s with fs := fRes (fGo f a q) (lastN p) :: rest }
  else if i.1 = 16 then { s with fs := fMode (fGo f (padFr x f) p) 1 :: rest }
  else if i.1 = 17 then (if f.2.2.2.2.2.1.getD i.2.toNat false = true then
      (if most ≤ (s.fs.length : Int) then { s with code := 4 }
       else { callM x most s (fFlags f (f.2.2.2.2.2.1.set i.2.toNat false)) rest ((fCode x f).2.2.1.getD i.2.toNat 0) 0 true with notes := s.notes ++ [(2, f.1, i.2)] })
    else { s with fs := fGo f a p :: rest })
  else endM x s f rest
def stepF (x : Image) (ins : List Int) (most : Int) (s : MS) : MS :=
  match s.fs with
  | [] => s
  | f :: rest => stepI x ins most s f rest (fIns x f)
/-! ### a good machine -/
/-- A frame's pile is as high as its place says. -/
def TopOk (x : Image) (f : Frame) : Prop := frB x f = true ∧ ((fPile f).length : Int) = hv (checkH x (fCode x f)) f.2.2.1
/-- A frame that waits for the one above it. -/
def WaitOk (x : Image) (b : Frame) (off : Bool) (fn : Int) : Prop :=
  frB x b = true ∧ 0 ≤ hv (checkH x (fCode x b)) b.2.2.1 ∧
    (((fIns x b).1 = 7 ∧ off = false ∧ (fIns x b).2 = fn ∧ ((fPile b).length : Int) = hv (checkH x (fCode x b)) b.2.2.1 - parF x fn) ∨
     ((fIns x b).1 = 17 ∧ off = true ∧ (fCode x b).2.2.1.getD (fIns x b).2.toNat 0 = fn ∧ ((fPile b).length : Int) = hv (checkH x (fCode x b)) b.2.2.1))
def StackOk (x : Image) : Bool → Int → List Frame → Prop
  | off, _, [] => off = false
  | off, fn, b :: r => WaitOk x b off fn ∧ StackOk x (frOff b) b.2.1 r
structure MOk (x : Image) (ins : List Int) (N : Nat) (s : MS) : Prop where
  run : s.code = 0 → ∃ f r, s.fs = f :: r ∧ TopOk x f ∧ StackOk x (frOff f) f.2.1 r
  code : 0 ≤ s.code ∧ s.code ≤ 4
  val0 : s.code = 0 → s.val = 0
  val : small s.val = true
  made : 0 ≤ s.made ∧ s.made ≤ (N : Int)
  used : s.used ≤ ins.length
  tr : s.tr.length ≤ N ∧ ∀ n, n ∈ s.tr → small n = true
  notes : s.notes.length ≤ 2 * N
  lens : ∀ f, f ∈ s.fs → frB x f = true ∧ (fPile f).length ≤ 40
  many : s.fs.length ≤ 12
section
variable {x : Image}
theorem frB_iff {f : Frame} : frB x f = true ↔ (0 ≤ f.2.1 ∧ f.2.1 < (x.length : Int)) ∧ small f.1 = true ∧ (0 ≤ f.2.2.1 ∧ f.2.2.1 < ((fCode x f).2.2.2.1.length : Int)) ∧ (fPile f).all small = true ∧ f.2.2.2.2.1.all small = true ∧ (f.2.2.2.2.1.length : Int) = (fCode x f).2.1 ∧ f.2.2.2.2.2.1.length = (fCode x f).2.2.1.length ∧ small (resOf f) = true ∧ (0 ≤ modeOf f ∧ modeOf f ≤ 3) ∧ small (valOf f) = true ∧ (baseOf f = 1 ∨ baseOf f = 3) := by
  unfold frB fldB fCode fPile resOf modeOf valOf baseOf
  simp only [Bool.and_eq_true, Bool.or_eq_true, decide_eq_true_eq, inB_iff]
  constructor
  · rintro ⟨h1, ⟨⟨⟨⟨⟨⟨⟨⟨⟨a1, a2⟩, a3⟩, a4⟩, a5⟩, a6⟩, a7⟩, a8⟩, a9⟩, a10⟩⟩
    exact ⟨⟨h1.1, by omega⟩, a1, ⟨a2.1, by omega⟩, a3, a4, a5, by omega, a7, a8, a9, a10⟩
  · rintro ⟨h1, a1, a2, a3, a4, a5, a6, a7, a8, a9, a10⟩
    exact ⟨⟨h1.1, by omega⟩, ⟨⟨⟨⟨⟨⟨⟨⟨⟨a1, a2.1, by omega⟩, a3⟩, a4⟩, a5⟩, by omega⟩, a7⟩, a8⟩, a9⟩, a10⟩⟩
/-- What is known of a code of a good image. -/
structure CdOk (x : Image) (c : Code) : Prop where
  mem : c ∈ x
  ok : codeF x c = 0
  sz : codeSz c = true
  sites : ∀ s, s ∈ c.2.2.1 → 0 ≤ s ∧ s < (x.length : Int) ∧ parF x s = 0
theorem cd_ok (hg : goodI x = true) {f : Frame} (h : 0 ≤ f.2.1 ∧ f.2.1 < (x.length : Int)) : CdOk x (fCode x f) := by
  have hg' := goodI_iff.1 hg
  obtain ⟨j, hj⟩ := Int.eq_ofNat_of_zero_le h.1
  have hjx : j < x.length := by omega
  have e : fCode x f = x[j] := by unfold fCode; rw [hj]; exact codeD_at hjx
  rw [e]
  have hok := hg'.2.2 _ (List.getElem_mem hjx)
  refine ⟨List.getElem_mem hjx, hok, sizedB_mem hg'.1 _ (List.getElem_mem hjx), fun s hs => ?_⟩
  have h1 := (codeF_0 hok).1
  have h2 : (x[j]).2.2.1.all (siteB x) = true := by
    by_cases h2 : (x[j]).2.2.1.all (siteB x) = true
    · exact h2
    · rw [codeF_2 h1 (by simpa using h2)] at hok; omega
  have h3 := List.all_eq_true.1 h2 s hs
  unfold siteB at h3
  rw [Bool.and_eq_true] at h3
  have := inB_iff.1 h3.1
  exact ⟨by omega, by omega, by simpa using h3.2⟩
/-- A place that is reached. -/
structure PlOk (x : Image) (c : Code) (p : Nat) (i : Ins) : Prop where
  lt : p < c.2.2.2.1.length
  ins : c.2.2.2.1[p]? = some i
  takes : takesF x i ≤ hv (checkH x c) (p : Int)
  next : ∀ s, s ∈ nextF i (p : Int) → 0 ≤ s ∧ s < (c.2.2.2.1.length : Int) ∧ hv (checkH x c) s = hv (checkH x c) (p : Int) - takesF x i + putsF i
  flat : flatB i.1 = true → hv (checkH x c) (p : Int) = 0
  pad : raisesB i.1 = true → ∃ r, r < c.2.2.2.2.length ∧ idxW (inRow (p : Int)) c.2.2.2.2 = (r : Int) ∧ (0 ≤ padOf c.2.2.2.2 (r : Int) ∧ padOf c.2.2.2.2 (r : Int) < (c.2.2.2.1.length : Int)) ∧ hv (checkH x c) (padOf c.2.2.2.2 (r : Int)) = 0
theorem pl_ok {c : Code} (h : CdOk x c) {p : Nat} (hp : p < c.2.2.2.1.length) (hh : 0 ≤ hv (checkH x c) (p : Int)) : PlOk x c p (insAt c.2.2.2.1 (p : Int)) := by
  obtain ⟨hn, hgo, hrw, l, hl1, hl2⟩ := codeF_0 h.ok
  have hs := heightsF_sol hl1
  have hc := h.ok
  have hsites : c.2.2.1.all (siteB x) = true := by
    by_cases h2 : c.2.2.1.all (siteB x) = true
    · exact h2
    · rw [codeF_2 hn (by simpa using h2)] at hc; omega
  rw [codeF_h hn hsites hgo hrw, hl1] at hc
  simp only at hc
  have e : insAt c.2.2.2.1 (p : Int) = c.2.2.2.1[p] := insAt_eq hp
  have e2 : c.2.2.2.1.getD p (0, 0) = c.2.2.2.1[p] := by simp [List.getD, hp]
  rw [hl2] at hh
  have hd := hs.cons.done (p : Int) hh
  unfold DoneH at hd
  rw [show ((p : Int)).toNat = p from rfl, e2] at hd
  refine ⟨hp, by rw [e]; exact List.getElem?_eq_getElem hp, by rw [hl2, e]; exact hd.1, fun s hm => ?_, fun hf => ?_, fun hr => ?_⟩
  · rw [hl2]
    rw [e] at hm ⊢
    have hm' : s ∈ nextAt c.2.2.2.1 (p : Int) := by unfold nextAt; rw [show ((p : Int)).toNat = p from rfl, e2]; exact hm
    have h1 := next_in hgo hp s hm'
    have h2 := hd.2 s hm'
    unfold highAt at h2
    rw [show ((p : Int)).toNat = p from rfl, e2] at h2
    exact ⟨h1.1, h1.2, h2⟩
  · rw [hl2]
    split at hc
    · omega
    · split at hc
      · omega
      · rename_i _ h7
        have := h7
        rw [Bool.not_eq_true, List.any_eq_false] at this
        have := this p (List.mem_range.2 hp)
        unfold bad7 at this
        rw [e2] at this
        rw [e] at hf
        simp only [Bool.and_eq_true, decide_eq_true_eq, not_and] at this
        by_cases h0 : 0 < hv l (p : Int)
        · exact absurd hf (this h0)
        · omega
  · rw [hl2]
    split at hc
    · omega
    · rename_i h6
      rw [Bool.not_eq_true, List.any_eq_false] at h6
      have h6 := h6 p (List.mem_range.2 hp)
      unfold bad6 at h6
      rw [e2] at h6
      rw [e] at hr
      simp only [Bool.and_eq_true, Bool.or_eq_true, decide_eq_true_eq, not_and, not_or] at h6
      have h6 := h6 ⟨hh, hr⟩
      obtain ⟨r, hr⟩ := Int.eq_ofNat_of_zero_le (show 0 ≤ idxW (inRow (p : Int)) c.2.2.2.2 by omega)
      have hlt := idxW_lt hr
      refine ⟨r, hlt, hr, ?_, ?_⟩
      · have := pad_in hrw hlt rfl
        unfold padOf
        simp [List.getD, hlt]
        omega
      · have := hs.cons.pad _ (List.getElem_mem hlt)
        unfold padOf
        simpa [List.getD, hlt] using this
theorem small_iff {n : Int} : small n = true ↔ -2147483648 ≤ n ∧ n ≤ 2147483647 := inB_iff
theorem top_frB {f : Frame} (h : TopOk x f) : frB x f = true := h.1
/-- What the top frame's place asks for. -/
theorem top_pl (hg : goodI x = true) {f : Frame} (h : TopOk x f) : CdOk x (fCode x f) ∧ ∃ p : Nat, f.2.2.1 = (p : Int) ∧ PlOk x (fCode x f) p (fIns x f) ∧ ((fPile f).length : Int) = hv (checkH x (fCode x f)) (p : Int) := by
  have hf := frB_iff.1 h.1
  have hc := cd_ok hg hf.1
  obtain ⟨p, hp⟩ := Int.eq_ofNat_of_zero_le hf.2.2.1.1
  have h2 := h.2
  have hl := hf.2.2.1.2
  unfold fIns
  rw [hp] at h2 hl ⊢
  exact ⟨hc, p, rfl, pl_ok hc (by omega) (by omega), h2⟩
theorem wait_pl (hg : goodI x = true) {b : Frame} (hb : frB x b = true) (hh : 0 ≤ hv (checkH x (fCode x b)) b.2.2.1) : CdOk x (fCode x b) ∧ ∃ p : Nat, b.2.2.1 = (p : Int) ∧ PlOk x (fCode x b) p (fIns x b) := by
  have hf := frB_iff.1 hb
  have hc := cd_ok hg hf.1
  obtain ⟨p, hp⟩ := Int.eq_ofNat_of_zero_le hf.2.2.1.1
  have hl := hf.2.2.1.2
  unfold fIns
  rw [hp] at hh hl ⊢
  exact ⟨hc, p, rfl, pl_ok hc (by omega) hh⟩
theorem frB_go {f : Frame} {a : Int} {q : List Int} (h : frB x f = true) (ha : 0 ≤ a ∧ a < ((fCode x f).2.2.2.1.length : Int)) (hq : q.all small = true) : frB x (fGo f a q) = true := by
  have hf := frB_iff.1 h
  exact frB_iff.2 ⟨hf.1, hf.2.1, ha, hq, hf.2.2.2.2⟩
theorem top_go (hg : goodI x = true) {f : Frame} (h : TopOk x f) {a : Int} {q : List Int} (ha : a ∈ nextF (fIns x f) f.2.2.1) (hl : (q.length : Int) = (fPile f).length - takesF x (fIns x f) + putsF (fIns x f)) (hq : q.all small = true) : TopOk x (fGo f a q) := by
  obtain ⟨hc, p, hp, hpl, hh⟩ := top_pl hg h
  rw [hp] at ha
  obtain ⟨n1, n2, n3⟩ := hpl.next a ha
  refine ⟨frB_go h.1 ⟨n1, n2⟩ hq, ?_⟩
  show (q.length : Int) = hv (checkH x (fCode x f)) a
  rw [n3, hl, hh]
theorem top_vars {f : Frame} (h : TopOk x f) {v : List Int} (hv : v.all small = true) (hl : v.length = f.2.2.2.2.1.length) : TopOk x (fVars f v) := by
  have hf := frB_iff.1 h.1
  exact ⟨frB_iff.2 ⟨hf.1, hf.2.1, hf.2.2.1, hf.2.2.2.1, hv, by rw [show (fVars f v).2.2.2.2.1 = v from rfl, hl]; exact hf.2.2.2.2.2.1, hf.2.2.2.2.2.2⟩, h.2⟩
theorem frB_flags {f : Frame} (h : frB x f = true) {v : List Bool} (hl : v.length = f.2.2.2.2.2.1.length) : frB x (fFlags f v) = true := by
  have hf := frB_iff.1 h
  exact frB_iff.2 ⟨hf.1, hf.2.1, hf.2.2.1, hf.2.2.2.1, hf.2.2.2.2.1, hf.2.2.2.2.2.1, by rw [show (fFlags f v).2.2.2.2.2.1 = v from rfl, hl]; exact hf.2.2.2.2.2.2.1, hf.2.2.2.2.2.2.2⟩
theorem top_flags {f : Frame} (h : TopOk x f) {v : List Bool} (hl : v.length = f.2.2.2.2.2.1.length) : TopOk x (fFlags f v) := ⟨frB_flags h.1 hl, h.2⟩
theorem top_res {f : Frame} (h : TopOk x f) {r : Int} (hr : small r = true) : TopOk x (fRes f r) := by
  have hf := frB_iff.1 h.1
  exact ⟨frB_iff.2 ⟨hf.1, hf.2.1, hf.2.2.1, hf.2.2.2.1, hf.2.2.2.2.1, hf.2.2.2.2.2.1, hf.2.2.2.2.2.2.1, hr, hf.2.2.2.2.2.2.2.2⟩, h.2⟩
theorem frB_mode {f : Frame} (h : frB x f = true) {m : Int} (hm : 0 ≤ m ∧ m ≤ 3) : frB x (fMode f m) = true := by
  have hf := frB_iff.1 h
  exact frB_iff.2 ⟨hf.1, hf.2.1, hf.2.2.1, hf.2.2.2.1, hf.2.2.2.2.1, hf.2.2.2.2.2.1, hf.2.2.2.2.2.2.1, hf.2.2.2.2.2.2.2.1, hm, hf.2.2.2.2.2.2.2.2.2⟩
/-- A mode is raised: the pad is a place of height 0. -/
theorem raise_ok (hg : goodI x = true) {b : Frame} (hb : frB x b = true) (hh : 0 ≤ hv (checkH x (fCode x b)) b.2.2.1) (hr : raisesB (fIns x b).1 = true) {m n : Int} (hm : m = 2 ∨ m = 3) (hn : small n = true) : TopOk x (raiseFr x b m n) := by
  obtain ⟨hc, p, hp, hpl⟩ := wait_pl hg hb hh
  obtain ⟨r, hrl, hi, hpd, hz⟩ := hpl.pad hr
  have e : padFr x b = padOf (fCode x b).2.2.2.2 (r : Int) := by unfold padFr; rw [hp, hi]
  have hf := frB_iff.1 hb
  refine ⟨frB_iff.2 ⟨hf.1, hf.2.1, ?_, rfl, hf.2.2.2.2.1, hf.2.2.2.2.2.1, hf.2.2.2.2.2.2.1, hf.2.2.2.2.2.2.2.1, ?_, hn, ?_⟩, ?_⟩
  · show 0 ≤ padFr x b ∧ padFr x b < ((fCode x b).2.2.2.1.length : Int)
    rw [e]; exact hpd
  · show 0 ≤ m ∧ m ≤ 3
    omega
  · show (if m = 3 then 3 else baseOf b) = 1 ∨ (if m = 3 then 3 else baseOf b) = 3
    split
    · exact Or.inr rfl
    · exact hf.2.2.2.2.2.2.2.2.2.2
  · show (0 : Int) = hv (checkH x (fCode x b)) (padFr x b)
    rw [e, hz]
theorem top_ge {f : Frame} (h : TopOk x f) : 0 ≤ hv (checkH x (fCode x f)) f.2.2.1 := by rw [← h.2]; omega
theorem hv_le40 (hg : goodI x = true) {f : Frame} (h : frB x f = true) : hv (checkH x (fCode x f)) f.2.2.1 ≤ 40 := by
  have hc := cd_ok hg (frB_iff.1 h).1
  obtain ⟨_, _, _, l, hl1, hl2⟩ := codeF_0 hc.ok
  rw [hl2]
  exact (heightsF_sol hl1).cons.le _
theorem parF_bd0 (hg : goodI x = true) (j : Int) : 0 ≤ parF x j := by
  unfold parF
  rcases Nat.lt_or_ge j.toNat x.length with h | h
  · have := (codeSz_all (sizedB_mem (goodI_iff.1 hg).1 _ (List.getElem_mem h))).1
    simp [List.getD, h]; omega
  · simp [List.getD, List.getElem?_eq_none h]
theorem stack_lens (hg : goodI x = true) : ∀ {off : Bool} {fn : Int} {r : List Frame}, StackOk x off fn r → ∀ f, f ∈ r → frB x f = true ∧ (fPile f).length ≤ 40
  | _, _fn, b :: r, h, f, hf => by
    obtain ⟨⟨h1, h2, h3⟩, h4⟩ := h
    rcases List.mem_cons.1 hf with rfl | hf
    · have a := hv_le40 hg h1
      refine ⟨h1, ?_⟩
      rcases h3 with ⟨_, _, _, h3⟩ | ⟨_, _, _, h3⟩
      · have := parF_bd0 hg _fn
        omega
      · omega
    · exact stack_lens hg h4 f hf
  | _, _, [], _, f, hf => by cases hf
theorem all_small_app {p : List Int} {n : Int} (hp : p.all small = true) (hn : small n = true) : (p ++ [n]).all small = true := by rw [List.all_append, hp]; simpa using hn
theorem all_small_mem {p : List Int} (hp : p.all small = true) {n : Int} (h : n ∈ p) : small n = true := List.all_eq_true.1 hp n h
theorem all_small_of {p q : List Int} (hp : p.all small = true) (h : ∀ n, n ∈ q → n ∈ p) : q.all small = true := List.all_eq_true.2 fun n hn => all_small_mem hp (h n hn)
theorem small_lastN {p : List Int} (hp : p.all small = true) : small (lastN p) = true := by
  unfold lastN
  rcases Nat.lt_or_ge (p.length - 1) p.length with h | h
  · rw [show p.getD (p.length - 1) 0 = p[p.length - 1] by simp [List.getD, h]]
    exact all_small_mem hp (List.getElem_mem h)
  · simp [List.getD, List.getElem?_eq_none h, small, inB]
theorem small_getD {p : List Int} (hp : p.all small = true) (k : Nat) : small (p.getD k 0) = true := by
  rcases Nat.lt_or_ge k p.length with h | h
  · rw [show p.getD k 0 = p[k] by simp [List.getD, h]]
    exact all_small_mem hp (List.getElem_mem h)
  · simp [List.getD, List.getElem?_eq_none h, small, inB]
theorem small_init {p : List Int} (hp : p.all small = true) : p.dropLast.all small = true := all_small_of hp fun n hn => List.dropLast_subset p hn
theorem ins_sz {f : Frame} (hc : CdOk x (fCode x f)) {p : Nat} {i : Ins} (hp : PlOk x (fCode x f) p i) : insB i = true ∧ i ∈ (fCode x f).2.2.2.1 := by
  have hm : i ∈ (fCode x f).2.2.2.1 := List.mem_of_getElem? hp.ins
  exact ⟨List.all_eq_true.1 (codeSz_all hc.sz).2.2.2.2.2 i hm, hm⟩
theorem op_range {i : Ins} (h : insB i = true) : 1 ≤ i.1 ∧ i.1 ≤ 18 := by
  unfold insB at h
  split at h
  · omega
  · split at h
    · omega
    · split at h
      · rename_i h3
        unfold hasNB at h3
        simp at h3
        omega
      · simp only [Bool.and_eq_true] at h
        exact inB_iff.1 h.1
/-- A new frame is good. -/
theorem new_ok (hg : goodI x = true) {id fn : Int} {given : List Int} {off : Bool} (hf : 0 ≤ fn ∧ fn < (x.length : Int)) (hid : small id = true) (hgs : given.all small = true) (hgl : (given.length : Int) ≤ (codeD x fn).2.1) : TopOk x (newFrm x id fn given off) := by
  have hc : CdOk x (codeD x fn) := cd_ok hg (f := (0, fn, 0, [], [], [], 0, 0, 0, 0, false)) hf
  have hz := codeSz_all hc.sz
  obtain ⟨_, _, _, l, hl1, hl2⟩ := codeF_0 hc.ok
  have hs := heightsF_sol hl1
  refine ⟨frB_iff.2 ⟨hf, hid, ?_, rfl, ?_, ?_, ?_, (show small (0 : Int) = true by simp [small, inB]), (show (0 : Int) ≤ 0 ∧ (0 : Int) ≤ 3 by omega), (show small (0 : Int) = true by simp [small, inB]), Or.inl rfl⟩, ?_⟩
  · show (0 : Int) ≤ 0 ∧ (0 : Int) < ((codeD x fn).2.2.2.1.length : Int)
    omega
  · show (given ++ List.replicate _ 0).all small = true
    rw [List.all_append, hgs]
    simp [small, inB]
  · show (((given ++ List.replicate ((codeD x fn).2.1.toNat - given.length) 0).length : Nat) : Int) = (codeD x fn).2.1
    rw [List.length_append, List.length_replicate]
    omega
  · show (List.replicate (codeD x fn).2.2.1.length false).length = (codeD x fn).2.2.1.length
    simp
  · show (0 : Int) = hv (checkH x (codeD x fn)) 0
    rw [hl2, hs.cons.zero]
theorem mok_of {ins : List Int} {N : Nat} {s s' : MS} (hg : goodI x = true) (h : MOk x ins N s) (hc : s.code = 0) {f : Frame} {r : List Frame} (e : s'.code = 0) (hfs : s'.fs = f :: r) (ht : TopOk x f) (hs : StackOk x (frOff f) f.2.1 r) (hv' : s'.val = s.val) (hm : s'.made = s.made ∨ s'.made = s.made + 1) (hu : s'.used ≤ ins.length)
    (htr : s'.tr.length ≤ N + 1 ∧ ∀ n, n ∈ s'.tr → small n = true) (hno : s'.notes.length ≤ s.notes.length + 2) (hmany : s'.fs.length ≤ 12) : MOk x ins (N + 1) s' := by
  refine ⟨fun _ => ⟨f, r, hfs, ht, hs⟩, by omega, fun _ => by rw [hv']; exact h.val0 hc, by rw [hv']; exact h.val, ?_, hu, htr, by have := h.notes; omega, fun g hg' => ?_, hmany⟩
  · have := h.made; omega
  · rw [hfs] at hg'
    rcases List.mem_cons.1 hg' with rfl | hg'
    · refine ⟨ht.1, ?_⟩
      have := ht.2
      have := hv_le40 hg ht.1
      omega
    · exact stack_lens hg hs g hg'
theorem mok_end {ins : List Int} {N : Nat} {s s' : MS} (h : MOk x ins N s) (hc : 1 ≤ s'.code ∧ s'.code ≤ 4) (hfs : ∀ f, f ∈ s'.fs → f ∈ s.fs) (hl : s'.fs.length ≤ s.fs.length) (hv' : small s'.val = true) (hm : s'.made = s.made) (hu : s'.used = s.used) (htr : s'.tr = s.tr) (hno : s'.notes.length ≤ s.notes.length + 2) : MOk x ins (N + 1) s' := by
  refine ⟨fun e => by omega, by omega, fun e => by omega, hv', by have := h.made; omega, by rw [hu]; exact h.used, ?_, by have := h.notes; omega, fun f hf => h.lens f (hfs f hf), by have := h.many; omega⟩
  have := h.tr
  rw [htr]
  exact ⟨by omega, this.2⟩
theorem lastN_app (p : List Int) (n : Int) : lastN (p ++ [n]) = n := by simp [lastN]
/-- A call leaves a good machine. -/
theorem call_ok {ins : List Int} {N : Nat} {s s' : MS} (hg : goodI x = true) (h : MOk x ins N s) (hc : s.code = 0) {f : Frame} {r : List Frame} (hfs : s.fs = f :: r) {f' : Frame} {fn : Int} {k : Nat} {off : Bool} (hw : WaitOk x (fGo f' f'.2.2.1 ((fPile f').take ((fPile f').length - k))) off fn) (hs : StackOk x (frOff f') f'.2.1 r) (hsm : (fPile f').all small = true)
    (hfn : 0 ≤ fn ∧ fn < (x.length : Int)) (hk : (k : Int) ≤ (codeD x fn).2.1) (hN : N ≤ 1000000) {most : Int} (hm : most ≤ 12) (hmost : ¬ most ≤ (s.fs.length : Int)) (e : s' = { s with fs := newFrm x s.made fn ((fPile f').drop ((fPile f').length - k)) off :: fGo f' f'.2.2.1 ((fPile f').take ((fPile f').length - k)) :: r, made := s.made + 1, notes := s'.notes }) (hno : s'.notes.length ≤ s.notes.length + 2) : MOk x ins (N + 1) s' := by
  have hmd := h.made
  refine mok_of hg h hc (f := newFrm x s.made fn ((fPile f').drop ((fPile f').length - k)) off) (r := fGo f' f'.2.2.1 ((fPile f').take ((fPile f').length - k)) :: r) (by rw [e]; exact hc) (by rw [e]) ?_ ⟨hw, hs⟩ (by rw [e]) (by rw [e]; exact Or.inr rfl) (by rw [e]; exact h.used) (by rw [e]; have := h.tr; exact ⟨by show s.tr.length ≤ N + 1; omega, this.2⟩) hno ?_
  · exact new_ok hg hfn (small_iff.2 (by omega)) (all_small_of hsm fun n hn => List.mem_of_mem_drop hn) (by rw [List.length_drop]; omega)
  · rw [e]
    have := h.many
    rw [hfs] at hmost this
    simp only [List.length_cons] at hmost this ⊢
    omega
theorem tk0 {i : Ins} (h : ¬ (i.1 = 3 ∨ i.1 = 8 ∨ i.1 = 9 ∨ i.1 = 11 ∨ i.1 = 13 ∨ i.1 = 15) ∧ ¬ i.1 = 4 ∧ ¬ i.1 = 7) : takesF x i = 0 := by unfold takesF; rw [if_neg h.1, if_neg h.2.1, if_neg h.2.2]
theorem tk1 {i : Ins} (h : i.1 = 3 ∨ i.1 = 8 ∨ i.1 = 9 ∨ i.1 = 11 ∨ i.1 = 13 ∨ i.1 = 15) : takesF x i = 1 := by unfold takesF; rw [if_pos h]
theorem tk2 {i : Ins} (h : i.1 = 4) : takesF x i = 2 := by unfold takesF; rw [if_neg (by omega), if_pos h]
theorem tk7 {i : Ins} (h : i.1 = 7) : takesF x i = parF x i.2 := by unfold takesF; rw [if_neg (by omega), if_neg (by omega), if_pos h]
theorem pt1 {i : Ins} (h : i.1 = 1 ∨ i.1 = 2 ∨ i.1 = 5 ∨ i.1 = 6 ∨ i.1 = 4 ∨ i.1 = 7) : putsF i = 1 := by unfold putsF; rw [if_pos h]
theorem pt0 {i : Ins} (h : ¬ (i.1 = 1 ∨ i.1 = 2 ∨ i.1 = 5 ∨ i.1 = 6 ∨ i.1 = 4 ∨ i.1 = 7)) : putsF i = 0 := by unfold putsF; rw [if_neg h]
theorem nx {i : Ins} {p : Int} (h : i.1 ≠ 10 ∧ i.1 ≠ 11 ∧ i.1 ≠ 13 ∧ i.1 ≠ 14 ∧ i.1 ≠ 16 ∧ i.1 ≠ 18) : p + 1 ∈ nextF i p := nextF_mem.2 (Or.inr (Or.inr ⟨h.1, h.2.1, h.2.2.1, h.2.2.2.1, h.2.2.2.2.1, h.2.2.2.2.2, rfl⟩))
theorem wait_of_top (hg : goodI x = true) {f : Frame} (ht : TopOk x f) : frB x f = true ∧ 0 ≤ hv (checkH x (fCode x f)) f.2.2.1 := ⟨ht.1, top_ge ht⟩
theorem i7_in (hg : goodI x = true) {f : Frame} (hc : CdOk x (fCode x f)) {p : Nat} {i : Ins} (hp : PlOk x (fCode x f) p i) (h7 : i.1 = 7) : (0 ≤ i.2 ∧ i.2 < (x.length : Int)) ∧ parF x i.2 ≤ (codeD x i.2).2.1 := by
  have hi := ins_sz hc hp
  have h := named_7 (codeF_0 hc.ok).1 (codeSz_all hc.sz).2.2.2.2.2 i hi.2 h7
  refine ⟨h, ?_⟩
  have hcd : CdOk x (codeD x i.2) := cd_ok hg (f := (0, i.2, 0, [], [], [], 0, 0, 0, 0, false)) h
  have := (codeSz_all hcd.sz).2.1.1
  exact this
theorem i17_in {f : Frame} (hc : CdOk x (fCode x f)) {p : Nat} {i : Ins} (hp : PlOk x (fCode x f) p i) (h17 : i.1 = 17) : (0 ≤ i.2 ∧ i.2.toNat < (fCode x f).2.2.1.length) ∧ 0 ≤ (fCode x f).2.2.1.getD i.2.toNat 0 ∧ (fCode x f).2.2.1.getD i.2.toNat 0 < (x.length : Int) := by
  have hi := ins_sz hc hp
  have h := named_17 (codeF_0 hc.ok).1 (codeSz_all hc.sz).2.2.2.2.2 i hi.2 h17
  have hl : i.2.toNat < (fCode x f).2.2.1.length := by omega
  have hs := hc.sites _ (List.getElem_mem hl)
  rw [show (fCode x f).2.2.1.getD i.2.toNat 0 = (fCode x f).2.2.1[i.2.toNat] by simp [List.getD, hl]]
  exact ⟨⟨h.1, hl⟩, hs.1, hs.2.1⟩
theorem num_small {f : Frame} (hc : CdOk x (fCode x f)) {p : Nat} {i : Ins} (hp : PlOk x (fCode x f) p i) (h1 : i.1 = 1) : small i.2 = true := by
  have hi := (ins_sz hc hp).1
  unfold insB at hi
  rwa [if_pos h1] at hi
theorem end_ok {ins : List Int} {N : Nat} {s : MS} (hg : goodI x = true) (h : MOk x ins N s) (hc : s.code = 0) {f : Frame} {r : List Frame} (hfs : s.fs = f :: r) (ht : TopOk x f) (hs : StackOk x (frOff f) f.2.1 r) : MOk x ins (N + 1) (endM x s f r) := by
  have hf := frB_iff.1 ht.1
  have hN0 : (s.notes ++ [(3, f.1, (0 : Int))]).length ≤ s.notes.length + 2 := by simp
  have htr : s.tr.length ≤ N + 1 ∧ ∀ n, n ∈ s.tr → small n = true := by have := h.tr; exact ⟨by omega, this.2⟩
  unfold endM
  cases r with
  | nil =>
    simp only
    split
    · exact mok_end h ⟨by simp, by simp⟩ (fun g hg => by cases hg) (by simp) hf.2.2.2.2.2.2.2.2.2.1 rfl rfl rfl hN0
    · split
      · exact mok_end h ⟨by simp, by simp⟩ (fun g hg => by cases hg) (by simp) (show small (0 : Int) = true by simp [small, inB]) rfl rfl rfl hN0
      · exact mok_end h ⟨by simp, by simp⟩ (fun g hg => by cases hg) (by simp) hf.2.2.2.2.2.2.2.1 rfl rfl rfl hN0
  | cons b r =>
    obtain ⟨⟨w1, w2, w3⟩, w4⟩ := hs
    have hmany : (b :: r).length ≤ 12 := by have := h.many; rw [hfs] at this; simp at this ⊢; omega
    have hr : raisesB (fIns x b).1 = true := by rcases w3 with ⟨e, _⟩ | ⟨e, _⟩ <;> rw [e] <;> rfl
    simp only
    split
    · exact mok_of hg h hc (s' := _) hc rfl (raise_ok hg w1 w2 hr (Or.inl rfl) hf.2.2.2.2.2.2.2.2.2.1) w4 rfl (Or.inl rfl) h.used htr hN0 (by simpa using hmany)
    · split
      · exact mok_of hg h hc (s' := _) hc rfl (raise_ok hg w1 w2 hr (Or.inr rfl) (show small (0 : Int) = true by simp [small, inB])) w4 rfl (Or.inl rfl) h.used htr hN0 (by simpa using hmany)
      · obtain ⟨hcd, p, hp, hpl⟩ := wait_pl hg w1 w2
        have hbs := (frB_iff.1 w1).2.2.2.1
        have hnx := fun (hm : (fIns x b).1 = 7 ∨ (fIns x b).1 = 17) => hpl.next _ (nx (i := fIns x b) (p := (p : Int)) (by omega))
        have hmid : TopOk x (fGo b (b.2.2.1 + 1) (if (fIns x b).1 = 7 then fPile b ++ [resOf f] else fPile b)) := by
          rw [hp] at w3 ⊢
          rcases w3 with ⟨e, eo, e2, e3⟩ | ⟨e, eo, e2, e3⟩
          · obtain ⟨n1, n2, n3⟩ := hnx (Or.inl e)
            rw [if_pos e]
            refine ⟨frB_go w1 ⟨n1, n2⟩ (all_small_app hbs hf.2.2.2.2.2.2.2.1), ?_⟩
            show (((fPile b ++ [resOf f]).length : Nat) : Int) = hv (checkH x (fCode x b)) ((p : Int) + 1)
            rw [n3, tk7 e, pt1 (by omega), e2, List.length_append, List.length_singleton]
            omega
          · obtain ⟨n1, n2, n3⟩ := hnx (Or.inr e)
            rw [if_neg (by omega)]
            refine ⟨frB_go w1 ⟨n1, n2⟩ hbs, ?_⟩
            show ((fPile b).length : Int) = hv (checkH x (fCode x b)) ((p : Int) + 1)
            rw [n3, tk0 (by omega), pt0 (by omega)]
            omega
        exact mok_of hg h hc (s' := _) hc rfl hmid w4 rfl (Or.inl rfl) h.used htr hN0 (by simpa using hmany)
theorem I32_small {n : Int} : I32 n ↔ small n = true := by rw [small_iff]; rfl
theorem frOff_go (f : Frame) (a : Int) (q : List Int) : frOff (fGo f a q) = frOff f := rfl
set_option maxHeartbeats 4000000 in
/-- A good machine stays good. -/
theorem step_ok {ins : List Int} {N : Nat} {s : MS} {most : Int} (hg : goodI x = true) (hin : ins.all small = true) (hN : N ≤ 1000000) (hm : most ≤ 12) (h : MOk x ins N s) (hc : s.code = 0) : MOk x ins (N + 1) (stepF x ins most s) := by
  obtain ⟨f, r, hfs, ht, hs⟩ := h.run hc
  obtain ⟨hcd, p, hp, hpl, hh⟩ := top_pl hg ht
  have hi := ins_sz hcd hpl
  have hop := op_range hi.1
  have hf := frB_iff.1 ht.1
  have hps : (fPile f).all small = true := hf.2.2.2.1
  have htr : s.tr.length ≤ N + 1 ∧ ∀ n, n ∈ s.tr → small n = true := by have := h.tr; exact ⟨by omega, this.2⟩
  have hmany : s.fs.length ≤ 12 := h.many
  have htk := hpl.takes
  have hgo : ∀ {a : Int} {q : List Int}, a ∈ nextF (fIns x f) (p : Int) → (q.length : Int) = (fPile f).length - takesF x (fIns x f) + putsF (fIns x f) → q.all small = true → TopOk x (fGo f a q) := fun ha hl hq => top_go hg ht (by rw [hp]; exact ha) hl hq
  have fin : ∀ (s' : MS) (f' : Frame), TopOk x f' → frOff f' = frOff f → f'.2.1 = f.2.1 → s'.fs = f' :: r → s'.code = 0 → s'.val = s.val → s'.made = s.made → s'.used ≤ ins.length → (s'.tr.length ≤ N + 1 ∧ ∀ n, n ∈ s'.tr → small n = true) → s'.notes.length ≤ s.notes.length + 2 → MOk x ins (N + 1) s' := fun s' f' h1 h2 h3 h4 h5 h6 h7 h8 h9 h10 =>
    mok_of hg h hc h5 h4 h1 (by rw [h2, h3]; exact hs) h6 (Or.inl h7) h8 h9 h10 (by rw [h4]; rw [hfs] at hmany; simpa using hmany)
  unfold stepF
  rw [hfs]
  simp only
  have hap : f.2.2.1 + 1 = (p : Int) + 1 := by rw [hp]
  have hq1 : (fPile f).dropLast.all small = true := small_init hps
  have hlq : (fPile f).dropLast.length = (fPile f).length - 1 := List.length_dropLast
  have hlq2 : (fPile f).dropLast.dropLast.length = (fPile f).length - 1 - 1 := by rw [List.length_dropLast, hlq]
  have hraise : ∀ {m n : Int}, raisesB (fIns x f).1 = true → (m = 2 ∨ m = 3) → small n = true → TopOk x (raiseFr x f m n) := fun h1 h2 h3 => raise_ok hg ht.1 (top_ge ht) h1 h2 h3
  have hlast := small_lastN hps
  obtain ⟨i, hI⟩ : ∃ i, fIns x f = i := ⟨_, rfl⟩
  rw [hI] at hpl hi hop htk hgo hraise ⊢
  unfold stepI
  simp only [hap]
  by_cases h1 : i.1 = 1
  · rw [if_pos h1]
    exact fin _ _ (hgo (nx (by omega)) (by rw [tk0 (by omega), pt1 (by omega)]; simp) (all_small_app hps (num_small hcd hpl h1))) rfl rfl rfl hc rfl rfl h.used htr (by simp)
  rw [if_neg h1]
  by_cases h2 : i.1 = 2
  · rw [if_pos h2]
    exact fin _ _ (hgo (nx (by omega)) (by rw [tk0 (by omega), pt1 (by omega)]; simp) (all_small_app hps (small_getD hf.2.2.2.2.1 _))) rfl rfl rfl hc rfl rfl h.used htr (by simp)
  rw [if_neg h2]
  by_cases h3 : i.1 = 3
  · rw [if_pos h3]
    rw [tk1 (by omega)] at htk
    refine fin _ _ (top_vars (hgo (q := (fPile f).dropLast) (nx (by omega)) (by rw [tk1 (by omega), pt0 (by omega)]; omega) hq1) ?_ (List.length_set ..)) rfl rfl rfl hc rfl rfl h.used htr (by simp)
    refine List.all_eq_true.2 fun n hn => ?_
    rcases List.mem_or_eq_of_mem_set hn with h | rfl
    · exact all_small_mem hf.2.2.2.2.1 h
    · exact hlast
  rw [if_neg h3]
  by_cases h4 : i.1 = 4
  · rw [if_pos h4]
    rw [tk2 h4] at htk
    split
    · have hl2 : ((fPile f).dropLast.dropLast.length : Int) = (fPile f).length - 2 := by rw [hlq2]; omega
      exact fin _ _ (hgo (nx (by omega)) (by rw [tk2 h4, pt1 (by omega), List.length_append, List.length_singleton]; omega) (all_small_app (small_init hq1) (I32_small.1 (recN_small _ _ _)))) rfl rfl rfl hc rfl rfl h.used htr (by simp)
    · exact fin _ _ (hraise (by rw [h4]; rfl) (Or.inl rfl) (show small (-1 : Int) = true by simp [small, inB])) rfl rfl rfl hc rfl rfl h.used htr (by simp)
  rw [if_neg h4]
  by_cases h5 : i.1 = 5
  · rw [if_pos h5]
    split
    · rename_i hu
      exact fin _ _ (hgo (nx (by omega)) (by rw [tk0 (by omega), pt1 (by omega)]; simp) (all_small_app hps (small_getD hin _))) rfl rfl rfl hc rfl rfl (by show s.used + 1 ≤ ins.length; omega) htr (by simp)
    · exact fin _ _ (hgo (nx (by omega)) (by rw [tk0 (by omega), pt1 (by omega)]; simp) (all_small_app hps (show small (0 : Int) = true by simp [small, inB]))) rfl rfl rfl hc rfl rfl h.used htr (by simp)
  rw [if_neg h5]
  by_cases h6 : i.1 = 6
  · rw [if_pos h6]
    have hz : TopOk x (fGo f ((p : Int) + 1) (fPile f ++ [0])) := hgo (nx (by omega)) (by rw [tk0 (by omega), pt1 (by omega)]; simp) (all_small_app hps (show small (0 : Int) = true by simp [small, inB]))
    cases r with
    | nil => exact fin _ _ hz rfl rfl rfl hc rfl rfl h.used htr (by simp)
    | cons b r' =>
      simp only
      split
      · obtain ⟨w, w4⟩ := hs
        have hb := frB_iff.1 w.1
        refine mok_of hg h hc (s' := _) hc rfl (hgo (nx (by omega)) (by rw [tk0 (by omega), pt1 (by omega)]; simp) (all_small_app hps hb.2.2.2.2.2.2.2.2.2.1)) ⟨⟨frB_mode w.1 (by have := hb.2.2.2.2.2.2.2.2.2.2; omega), w.2⟩, w4⟩ rfl (Or.inl rfl) h.used htr (by simp) (by rw [hfs] at hmany; simpa using hmany)
      · exact fin _ _ hz rfl rfl rfl hc rfl rfl h.used htr (by simp)
  rw [if_neg h6]
  by_cases h7 : i.1 = 7
  · rw [if_pos h7]
    rw [tk7 h7] at htk
    obtain ⟨hfn, hpv⟩ := i7_in hg hcd hpl h7
    have hp0 := parF_bd0 hg i.2
    unfold callM
    split
    · exact mok_end h ⟨by simp, by simp⟩ (fun g hg => hg) (Nat.le_refl _) h.val rfl rfl rfl (by simp)
    · rename_i hmost
      refine call_ok hg h hc hfs (f' := f) (fn := i.2) (k := (parF x i.2).toNat) (off := false) ⟨frB_go ht.1 hf.2.2.1 (all_small_of hps fun n hn => List.mem_of_mem_take hn), (show (0 : Int) ≤ hv (checkH x (fCode x f)) f.2.2.1 from top_ge ht), Or.inl ⟨?_, rfl, ?_, ?_⟩⟩ hs hps hfn (by omega) hN hm hmost rfl (by simp)
      · show (fIns x f).1 = 7
        rw [hI]; exact h7
      · show (fIns x f).2 = i.2
        rw [hI]
      · show (((fPile f).take ((fPile f).length - (parF x i.2).toNat)).length : Int) = hv (checkH x (fCode x f)) f.2.2.1 - parF x i.2
        rw [hp, ← hh, List.length_take]
        omega
  rw [if_neg h7]
  by_cases h8 : i.1 = 8
  · rw [if_pos h8]
    rw [tk1 (by omega)] at htk
    refine fin _ _ (hgo (nx (by omega)) (by rw [tk1 (by omega), pt0 (by omega)]; omega) hq1) rfl rfl rfl hc rfl rfl h.used ?_ (by simp)
    have := h.tr
    refine ⟨by simp; omega, fun n hn => ?_⟩
    rcases List.mem_append.1 hn with hn | hn
    · exact this.2 n hn
    · simp at hn; rw [hn]; exact hlast
  rw [if_neg h8]
  by_cases h9 : i.1 = 9
  · rw [if_pos h9]
    rw [tk1 (by omega)] at htk
    exact fin _ _ (hgo (nx (by omega)) (by rw [tk1 (by omega), pt0 (by omega)]; omega) hq1) rfl rfl rfl hc rfl rfl h.used htr (by simp)
  rw [if_neg h9]
  by_cases h10 : i.1 = 10
  · rw [if_pos h10]
    exact fin _ _ (hgo (nextF_mem.2 (Or.inl ⟨h10, rfl⟩)) (by rw [tk0 (by omega), pt0 (by omega)]; omega) hps) rfl rfl rfl hc rfl rfl h.used htr (by simp)
  rw [if_neg h10]
  by_cases h11 : i.1 = 11
  · rw [if_pos h11]
    rw [tk1 (by omega)] at htk
    refine fin _ _ (hgo (nextF_mem.2 (Or.inr (Or.inl ⟨h11, ?_⟩))) (by rw [tk1 (by omega), pt0 (by omega)]; omega) hq1) rfl rfl rfl hc rfl rfl h.used htr (by simp)
    split
    · exact Or.inr rfl
    · exact Or.inl rfl
  rw [if_neg h11]
  by_cases h12 : i.1 = 12
  · rw [if_pos h12]
    exact fin _ _ (top_flags (hgo (nx (by omega)) (by rw [tk0 (by omega), pt0 (by omega)]; omega) hps) (List.length_set ..)) rfl rfl rfl hc rfl rfl h.used htr (by simp)
  rw [if_neg h12]
  by_cases h13 : i.1 = 13
  · rw [if_pos h13]
    exact fin _ _ (hraise (by rw [h13]; rfl) (Or.inl rfl) hlast) rfl rfl rfl hc rfl rfl h.used htr (by simp)
  rw [if_neg h13]
  by_cases h14 : i.1 = 14
  · rw [if_pos h14]
    exact fin _ _ (hraise (by rw [h14]; rfl) (Or.inr rfl) (show small (0 : Int) = true by simp [small, inB])) rfl rfl rfl hc rfl rfl h.used htr (by simp)
  rw [if_neg h14]
  by_cases h15 : i.1 = 15
  · rw [if_pos h15]
    rw [tk1 (by omega)] at htk
    exact fin _ _ (top_res (hgo (nx (by omega)) (by rw [tk1 (by omega), pt0 (by omega)]; omega) hq1) hlast) rfl rfl rfl hc rfl rfl h.used htr (by simp)
  rw [if_neg h15]
  by_cases h16 : i.1 = 16
  · rw [if_pos h16]
    obtain ⟨rr, hrl, hix, hpd, hz⟩ := hpl.pad (by rw [h16]; rfl)
    have h0 := hpl.flat (by rw [h16]; rfl)
    have e : padFr x f = padOf (fCode x f).2.2.2.2 (rr : Int) := by unfold padFr; rw [hp, hix]
    refine fin _ (fMode (fGo f (padFr x f) (fPile f)) 1) ⟨frB_mode (frB_go ht.1 (by rw [e]; exact hpd) hps) (by omega), ?_⟩ rfl rfl rfl hc rfl rfl h.used htr (by simp)
    show ((fPile f).length : Int) = hv (checkH x (fCode x f)) (padFr x f)
    rw [e, hz, hh, h0]
  rw [if_neg h16]
  by_cases h17 : i.1 = 17
  · rw [if_pos h17]
    obtain ⟨⟨hn0, hnl⟩, hfn⟩ := i17_in hcd hpl h17
    split
    · split
      · exact mok_end h ⟨by simp, by simp⟩ (fun g hg => hg) (Nat.le_refl _) h.val rfl rfl rfl (by simp)
      · rename_i hmost
        unfold callM
        rw [if_neg hmost]
        have hff : frB x (fFlags f (f.2.2.2.2.2.1.set i.2.toNat false)) = true := frB_flags ht.1 (by simp)
        have hz : ((0 : Nat) : Int) ≤ (codeD x ((fCode x f).2.2.1.getD i.2.toNat 0)).2.1 := by
          have hcd2 : CdOk x (codeD x ((fCode x f).2.2.1.getD i.2.toNat 0)) := cd_ok hg (f := (0, (fCode x f).2.2.1.getD i.2.toNat 0, 0, [], [], [], 0, 0, 0, 0, false)) hfn
          have := codeSz_all hcd2.sz
          omega
        refine call_ok hg h hc hfs (f' := fFlags f (f.2.2.2.2.2.1.set i.2.toNat false)) (fn := (fCode x f).2.2.1.getD i.2.toNat 0) (k := 0) (off := true) ⟨frB_go hff hf.2.2.1 (all_small_of hps fun n hn => List.mem_of_mem_take hn), (show (0 : Int) ≤ hv (checkH x (fCode x f)) f.2.2.1 from top_ge ht), Or.inr ⟨?_, rfl, ?_, ?_⟩⟩ hs hps hfn hz hN hm hmost rfl (by simp)
        · show (fIns x f).1 = 17
          rw [hI]; exact h17
        · show (fCode x f).2.2.1.getD (fIns x f).2.toNat 0 = _
          rw [hI]
        · show (((fPile f).take ((fPile f).length - 0)).length : Int) = hv (checkH x (fCode x f)) f.2.2.1
          rw [hp, ← hh, List.length_take]
          omega
    · exact fin _ _ (hgo (nx (by omega)) (by rw [tk0 (by omega), pt0 (by omega)]; omega) hps) rfl rfl rfl hc rfl rfl h.used htr (by simp)
  rw [if_neg h17]
  exact end_ok hg h hc hfs ht hs
end
end Go.Proofs.YtgdeclmciflmpaaGreat
