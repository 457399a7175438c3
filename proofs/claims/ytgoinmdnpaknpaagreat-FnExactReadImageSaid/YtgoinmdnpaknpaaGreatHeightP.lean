/- Heights of a code: plain law. -/
import Derived.Test.YtgoinmdnpaknpaaGreatTyIm
set_option linter.unusedVariables false
set_option linter.unusedSimpArgs false
namespace Go.Proofs.YtgoinmdnpaknpaaGreat
open Go.RowKit
/-- The value of a number's place, -1 where there is none. -/
def hv (h : List Int) (p : Int) : Int := if 0 ≤ p then h.getD p.toNat (-1) else -1
def parF (x : Image) (k : Int) : Int := (x.getD k.toNat (0, 0, [], [], [])).1
def takesF (x : Image) (i : Ins) : Int :=
  if i.1 = 3 ∨ i.1 = 8 ∨ i.1 = 9 ∨ i.1 = 11 ∨ i.1 = 13 ∨ i.1 = 15 then 1 else if i.1 = 4 then 2 else if i.1 = 7 then parF x i.2 else 0
def putsF (i : Ins) : Int := if i.1 = 1 ∨ i.1 = 2 ∨ i.1 = 5 ∨ i.1 = 6 ∨ i.1 = 4 ∨ i.1 = 7 then 1 else 0
def nextF (i : Ins) (p : Int) : List Int :=
  if i.1 = 10 then [i.2]
  else if i.1 = 11 then (if p + 1 < i.2 then [p + 1, i.2] else if i.2 = p + 1 then [p + 1] else [i.2, p + 1])
  else if i.1 = 13 ∨ i.1 = 14 ∨ i.1 = 16 ∨ i.1 = 18 then [] else [p + 1]
theorem nextF_len (i : Ins) (p : Int) : (nextF i p).length ≤ 2 := by
  unfold nextF; split <;> (try split) <;> (try split) <;> (try split) <;> simp
theorem putsF_bd (i : Ins) : 0 ≤ putsF i ∧ putsF i ≤ 1 := by unfold putsF; split <;> omega
theorem high_none {x : Image} {i : Ins} {p : Int} (h : nextF i p = []) (hp : 0 ≤ takesF x i) : putsF i ≤ takesF x i := by
  unfold nextF at h
  split at h
  · simp at h
  · split at h
    · split at h
      · simp at h
      · split at h <;> simp at h
    · split at h
      · rename_i h1 h2 h3
        have : putsF i = 0 := by unfold putsF; rw [if_neg (by omega)]
        omega
      · simp at h
section
variable (x : Image) (I : List Ins) (rows : List Row)
def highAt (h : List Int) (p : Int) : Int := hv h p - takesF x (I.getD p.toNat (0, 0)) + putsF (I.getD p.toNat (0, 0))
def nextAt (p : Int) : List Int := nextF (I.getD p.toNat (0, 0)) p
/-- What a place that is reached asks for. -/
def DoneH (h : List Int) (p : Int) : Prop := takesF x (I.getD p.toNat (0, 0)) ≤ hv h p ∧ ∀ s, s ∈ nextAt I p → hv h s = highAt x I h p
structure ConsH (h : List Int) : Prop where
  le : ∀ p, hv h p ≤ 40
  zero : hv h 0 = 0
  pad : ∀ r, r ∈ rows → hv h r.2.2 = 0
  done : ∀ p, 0 ≤ hv h p → DoneH x I h p
inductive ReachH : Int → Prop
  | zero : ReachH 0
  | pad {r : Row} : r ∈ rows → ReachH r.2.2
  | next {p s : Int} : ReachH p → s ∈ nextAt I p → ReachH s
structure SolH (h : List Int) : Prop where
  len : h.length = I.length
  ge : ∀ v, v ∈ h → -1 ≤ v
  cons : ConsH x I rows h
  reach : ∀ p, 0 ≤ hv h p → ReachH I rows p
end
theorem hv_nat (h : List Int) (p : Nat) : hv h (p : Int) = h.getD p (-1) := by unfold hv; rw [if_pos (by omega)]; rfl
theorem hv_get {h : List Int} {p : Nat} (hp : p < h.length) : hv h (p : Int) = h[p] := by rw [hv_nat]; simp [List.getD, hp]
theorem hv_pos {h : List Int} {p : Int} (hp : 0 ≤ hv h p) : 0 ≤ p ∧ p.toNat < h.length := by
  unfold hv at hp
  split at hp
  · refine ⟨by assumption, ?_⟩
    rcases Nat.lt_or_ge p.toNat h.length with h1 | h1
    · exact h1
    · rw [List.getD_eq_getElem?_getD, List.getElem?_eq_none h1] at hp; simp at hp
  · omega
theorem hv_ge {h : List Int} (hg : ∀ v, v ∈ h → -1 ≤ v) (p : Int) : -1 ≤ hv h p := by
  unfold hv
  split
  · rcases Nat.lt_or_ge p.toNat h.length with h1 | h1
    · rw [List.getD_eq_getElem?_getD, List.getElem?_eq_getElem h1]; exact hg _ (List.getElem_mem h1)
    · rw [List.getD_eq_getElem?_getD, List.getElem?_eq_none h1]; simp
  · omega
theorem hv_set {h : List Int} {p : Nat} {v : Int} (hp : p < h.length) (q : Int) : hv (h.set p v) q = if q = (p : Int) then v else hv h q := by
  unfold hv
  by_cases h0 : 0 ≤ q
  · rw [if_pos h0, if_pos h0]
    by_cases hq : q = (p : Int)
    · subst hq
      rw [if_pos rfl]
      simp [List.getD, hp]
    · rw [if_neg hq]
      have : p ≠ q.toNat := by omega
      simp [List.getD, List.getElem?_set, this]
  · rw [if_neg h0, if_neg h0, if_neg (by omega)]
theorem reach_agree {x : Image} {I : List Ins} {rows : List Row} {g h : List Int} (hg : ConsH x I rows g) (hh : ConsH x I rows h) {p : Int} (hr : ReachH I rows p) : hv g p = hv h p ∧ 0 ≤ hv g p := by
  induction hr with
  | zero => rw [hg.zero, hh.zero]; exact ⟨rfl, Int.le_refl _⟩
  | pad hr => rw [hg.pad _ hr, hh.pad _ hr]; exact ⟨rfl, Int.le_refl _⟩
  | @next p s hp hs ih =>
    have a := (hg.done p ih.2).2 s hs
    have b := (hh.done p (by omega)).2 s hs
    have c := (hg.done p ih.2).1
    have d := putsF_bd (I.getD p.toNat (0, 0))
    rw [a, b]
    unfold highAt
    omega
theorem solH_uniq {x : Image} {I : List Ins} {rows : List Row} {g h : List Int} (hg : SolH x I rows g) (hh : SolH x I rows h) : g = h := by
  apply List.ext_getElem (by rw [hg.len, hh.len])
  intro p h1 h2
  have e1 := hv_get h1
  have e2 := hv_get h2
  have g1 := hg.ge _ (List.getElem_mem h1)
  have g2 := hh.ge _ (List.getElem_mem h2)
  rw [← e1, ← e2]
  rw [← e1] at g1
  rw [← e2] at g2
  by_cases a : 0 ≤ hv g p
  · exact (reach_agree hg.cons hh.cons (hg.reach _ a)).1
  · by_cases b : 0 ≤ hv h p
    · exact (reach_agree hg.cons hh.cons (hh.reach _ b)).1
    · omega
open Classical in
noncomputable def heightsF (x : Image) (I : List Ins) (rows : List Row) : Option (List Int) := if h : ∃ h, SolH x I rows h then some h.choose else none
theorem heightsF_some {x : Image} {I : List Ins} {rows : List Row} {h : List Int} (hs : SolH x I rows h) : heightsF x I rows = some h := by
  have he : ∃ h, SolH x I rows h := ⟨h, hs⟩
  unfold heightsF
  rw [dif_pos he]
  rw [solH_uniq he.choose_spec hs]
theorem heightsF_none {x : Image} {I : List Ins} {rows : List Row} (hs : ∀ g, ¬ ConsH x I rows g) : heightsF x I rows = none := by
  unfold heightsF
  rw [dif_neg]
  rintro ⟨h, hh⟩
  exact hs h hh.cons
theorem heightsF_sol {x : Image} {I : List Ins} {rows : List Row} {h : List Int} (hs : heightsF x I rows = some h) : SolH x I rows h := by
  unfold heightsF at hs
  split at hs
  · rename_i he; injection hs with hs; rw [← hs]; exact he.choose_spec
  · cases hs
/-- Heights under way: what is met is right; what is met and not pending is done. -/
structure InvH (x : Image) (I : List Ins) (rows : List Row) (h open_ : List Int) : Prop where
  len : h.length = I.length
  ge : ∀ v, v ∈ h → -1 ≤ v
  le : ∀ p, hv h p ≤ 40
  reach : ∀ p, 0 ≤ hv h p → ReachH I rows p
  forced : ∀ g, ConsH x I rows g → ∀ p, 0 ≤ hv h p → hv g p = hv h p
  pend : ∀ p, 0 ≤ hv h p → p ∈ open_ ∨ DoneH x I h p
  pos : ∀ p, p ∈ open_ → 0 ≤ hv h p
section
variable {x : Image} {I : List Ins} {rows : List Row} {h pend : List Int}
/-- A place is met for the first time. -/
theorem InvH.meet (hi : InvH x I rows h pend) {p : Nat} {v : Int} (hp : p < h.length) (hn : hv h p < 0) (hv0 : 0 ≤ v) (hv1 : v ≤ 40) (hr : ReachH I rows p) (hf : ∀ g, ConsH x I rows g → hv g p = v) {pend' : List Int} (hsub : ∀ q, q ∈ pend' ↔ q ∈ pend ∨ q = (p : Int)) : InvH x I rows (h.set p v) pend' := by
  have hs := fun q => hv_set (v := v) hp q
  refine ⟨by rw [List.length_set]; exact hi.len, ?_, ?_, ?_, ?_, ?_, ?_⟩
  · intro u hu
    rcases List.mem_or_eq_of_mem_set hu with h1 | h1
    · exact hi.ge _ h1
    · omega
  · intro q; rw [hs q]; split
    · exact hv1
    · exact hi.le q
  · intro q hq
    rw [hs q] at hq
    split at hq
    · rename_i e; rw [e]; exact hr
    · exact hi.reach q hq
  · intro g hg q hq
    rw [hs q] at hq ⊢
    split at hq
    · rename_i e; rw [if_pos e, e]; exact hf g hg
    · rename_i e; rw [if_neg e]; exact hi.forced g hg q hq
  · intro q hq
    rw [hs q] at hq
    by_cases e : q = (p : Int)
    · exact Or.inl ((hsub q).2 (Or.inr e))
    · rw [if_neg e] at hq
      rcases hi.pend q hq with h1 | ⟨h1, h2⟩
      · exact Or.inl ((hsub q).2 (Or.inl h1))
      · refine Or.inr ⟨by rw [hs q, if_neg e]; exact h1, fun s hs' => ?_⟩
        have h3 := h2 s hs'
        have h4 : highAt x I (h.set p v) q = highAt x I h q := by unfold highAt; rw [hs q, if_neg e]
        rw [h4, hs s]
        split
        · rename_i e2
          rw [e2] at h3
          have := putsF_bd (I.getD q.toNat (0, 0))
          unfold highAt at h3
          omega
        · exact h3
  · intro q hq
    rw [hs q]
    split
    · exact hv0
    · rename_i e
      rcases (hsub q).1 hq with h1 | h1
      · exact hi.pos q h1
      · exact absurd h1 e
/-- A pending place is done. -/
theorem InvH.finish (hi : InvH x I rows h pend) {p : Int} {pend' : List Int} (hd : DoneH x I h p) (hsub : ∀ q, q ∈ pend → q ∈ pend' ∨ q = p) (hsup : ∀ q, q ∈ pend' → q ∈ pend) : InvH x I rows h pend' :=
  ⟨hi.len, hi.ge, hi.le, hi.reach, hi.forced, fun q hq => by
    rcases hi.pend q hq with h1 | h1
    · rcases hsub q h1 with h2 | h2
      · exact Or.inl h2
      · subst h2; exact Or.inr hd
    · exact Or.inr h1, fun q hq => hi.pos q (hsup q hq)⟩
theorem InvH.more (hi : InvH x I rows h pend) {pend' : List Int} (hsub : ∀ q, q ∈ pend → q ∈ pend') (hsup : ∀ q, q ∈ pend' → q ∈ pend) : InvH x I rows h pend' :=
  ⟨hi.len, hi.ge, hi.le, hi.reach, hi.forced, fun q hq => (hi.pend q hq).imp_left (hsub q), fun q hq => hi.pos q (hsup q hq)⟩
theorem InvH.sol (hi : InvH x I rows h []) (h0 : hv h 0 = 0) (hp : ∀ r, r ∈ rows → hv h r.2.2 = 0) : SolH x I rows h :=
  ⟨hi.len, hi.ge, ⟨hi.le, h0, hp, fun p hp => (hi.pend p hp).resolve_left (by simp)⟩, hi.reach⟩
/-- A number too few on the pile: no heights. -/
theorem InvH.few (hi : InvH x I rows h pend) {p : Int} (hp : 0 ≤ hv h p) (hf : hv h p < takesF x (I.getD p.toNat (0, 0))) : heightsF x I rows = none :=
  heightsF_none fun g hg => by
    have e := hi.forced g hg p hp
    have := (hg.done p (by omega)).1
    omega
theorem InvH.next_val (hi : InvH x I rows h pend) {p s : Int} (hp : 0 ≤ hv h p) (hs : s ∈ nextAt I p) : ∀ g, ConsH x I rows g → hv g s = highAt x I h p := fun g hg => by
  have e := hi.forced g hg p hp
  rw [(hg.done p (by omega)).2 s hs]
  unfold highAt
  rw [e]
theorem InvH.tall (hi : InvH x I rows h pend) {p s : Int} (hp : 0 ≤ hv h p) (hs : s ∈ nextAt I p) (hf : 40 < highAt x I h p) : heightsF x I rows = none :=
  heightsF_none fun g hg => by
    have := hi.next_val hp hs g hg
    have := hg.le s
    omega
theorem InvH.apart (hi : InvH x I rows h pend) {p s : Int} (hp : 0 ≤ hv h p) (hs : s ∈ nextAt I p) (h1 : 0 ≤ hv h s) (h2 : ¬ hv h s = highAt x I h p) : heightsF x I rows = none :=
  heightsF_none fun g hg => by
    have e1 := hi.next_val hp hs g hg
    have e2 := hi.forced g hg s h1
    omega
end
/-- The first heights: all unmet but place 0. -/
theorem InvH.start {x : Image} {I : List Ins} {rows : List Row} (hn : 1 ≤ I.length) : InvH x I rows ((List.replicate I.length (-1)).set 0 0) [0] := by
  have h0 : ∀ p, hv (List.replicate I.length (-1)) p = -1 := by
    intro p
    unfold hv
    split
    · rcases Nat.lt_or_ge p.toNat I.length with h | h
      · simp [List.getD, h]
      · simp [List.getD, List.getElem?_eq_none, h]
    · rfl
  have hb : InvH x I rows (List.replicate I.length (-1)) [] :=
    ⟨by simp, fun v hv => by rw [List.eq_of_mem_replicate hv]; omega, fun p => by rw [h0]; omega, fun p hp => by rw [h0] at hp; omega, fun g hg p hp => by rw [h0] at hp; omega, fun p hp => by rw [h0] at hp; omega, fun p hp => by simp at hp⟩
  exact hb.meet (p := 0) (v := 0) (by simp; omega) (by rw [h0]; omega) (by omega) (by omega) .zero (fun g hg => hg.zero) (by simp)
/-- The least number with a property. -/
theorem ex_least {P : Nat → Prop} (n : Nat) : P n → ∃ m, P m ∧ ∀ k, P k → m ≤ k := by
  induction n using Nat.strongRecOn with
  | _ n ih =>
    intro h
    by_cases hx : ∃ k, k < n ∧ P k
    · obtain ⟨k, h1, h2⟩ := hx
      exact ih k h1 h2
    · exact ⟨n, h, fun k hk => Nat.le_of_not_lt fun hl => hx ⟨k, hl, hk⟩⟩
open Classical in
noncomputable def leastN (P : Nat → Prop) : Nat := if h : ∃ m, P m ∧ ∀ k, P k → m ≤ k then h.choose else 0
theorem leastN_spec {P : Nat → Prop} (h : ∃ n, P n) : P (leastN P) := by
  obtain ⟨n, h⟩ := h
  have he := ex_least n h
  unfold leastN
  rw [dif_pos he]
  exact he.choose_spec.1
theorem leastN_le {P : Nat → Prop} {n : Nat} (h : P n) : leastN P ≤ n := by
  have he := ex_least n h
  unfold leastN
  rw [dif_pos he]
  exact he.choose_spec.2 n h
def unmet (h : List Int) : Nat := h.countP (· < 0)
theorem unmet_set : ∀ {h : List Int} {p : Nat} {v : Int} (hp : p < h.length), h[p] < 0 → 0 ≤ v → unmet (h.set p v) + 1 = unmet h
  | a :: h, 0, v, hp, h1, h2 => by
    unfold unmet
    simp only [List.set_cons_zero, List.countP_cons]
    simp at h1
    simp [h1, h2]
  | a :: h, p + 1, v, hp, h1, h2 => by
    have := unmet_set (h := h) (p := p) (v := v) (by simpa using hp) (by simpa using h1) h2
    unfold unmet at this ⊢
    simp only [List.set_cons_succ, List.countP_cons]
    omega
end Go.Proofs.YtgoinmdnpaknpaaGreat
