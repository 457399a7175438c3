/- What is left of a code without what is not reached, and of a threaded code: plain law. -/
import Derived.Test.YtmnkgcjbckamnaaGreatThreadP
import Derived.Test.YtmnkgcjbckamnaaGreatLive
set_option linter.unusedVariables false
set_option linter.unusedSimpArgs false
namespace Go.Proofs.YtmnkgcjbckamnaaGreat
open Go.RowKit
/-- How many of the first k places are reached. -/
def plN (h : List Int) (k : Nat) : Nat := (h.take k).countP (fun v => decide (0 ≤ v))
def plI (h : List Int) (n : Int) : Int := (plN h n.toNat : Int)
theorem plN_0 (h : List Int) : plN h 0 = 0 := rfl
theorem plN_step {h : List Int} {k : Nat} (hk : k < h.length) : plN h (k + 1) = plN h k + (if 0 ≤ h[k] then 1 else 0) := by
  unfold plN
  rw [List.take_succ_eq_append_getElem hk, List.countP_append]
  by_cases hp : 0 ≤ h[k] <;> simp [hp]
theorem plN_le (h : List Int) (k : Nat) : plN h k ≤ k := by
  unfold plN
  exact Nat.le_trans List.countP_le_length (by simp; omega)
theorem plN_mono (h : List Int) {j k : Nat} (hk : j ≤ k) : plN h j ≤ plN h k := by
  unfold plN
  rw [show h.take j = (h.take k).take j by rw [List.take_take, Nat.min_eq_left hk]]
  exact List.Sublist.countP_le (List.take_sublist _ _)
def places (h : List Int) (n : Nat) : List Int := (List.range n).map fun k => (plN h k : Int)
theorem places_len (h : List Int) (n : Nat) : (places h n).length = n := by simp [places]
theorem places_at {h : List Int} {n k : Nat} (hk : k < n) : (places h n)[k]'(by rw [places_len]; exact hk) = (plN h k : Int) := by simp [places]
theorem places_succ (h : List Int) (n : Nat) : places h (n + 1) = places h n ++ [(plN h n : Int)] := by simp [places, List.range_succ]
/-- The places that are reached, of the first k, each turned by g. -/
def dropK (g : Ins → Ins) (I : List Ins) (h : List Int) (k : Nat) : List Ins := ((I.zip h).take k).filterMap fun e => if 0 ≤ e.2 then some (g e.1) else none
theorem dropK_0 (g : Ins → Ins) (I : List Ins) (h : List Int) : dropK g I h 0 = [] := by simp [dropK]
theorem dropK_yes {g : Ins → Ins} {I : List Ins} {h : List Int} {k : Nat} (hl : h.length = I.length) (hk : k < I.length) (hp : 0 ≤ h[k]'(by omega)) : dropK g I h (k + 1) = dropK g I h k ++ [g I[k]] := by
  unfold dropK
  rw [List.take_succ_eq_append_getElem (by simp; omega), List.filterMap_append]
  simp [hp]
theorem dropK_no {g : Ins → Ins} {I : List Ins} {h : List Int} {k : Nat} (hl : h.length = I.length) (hk : k < I.length) (hp : ¬ 0 ≤ h[k]'(by omega)) : dropK g I h (k + 1) = dropK g I h k := by
  unfold dropK
  rw [List.take_succ_eq_append_getElem (by simp; omega), List.filterMap_append]
  simp [hp]
theorem dropK_len {g : Ins → Ins} {I : List Ins} {h : List Int} (hl : h.length = I.length) : ∀ k, k ≤ I.length → (dropK g I h k).length = plN h k
  | 0, _ => by rw [dropK_0]; rfl
  | k + 1, hk => by
    have ih := dropK_len (g := g) hl k (by omega)
    rw [plN_step (by omega)]
    by_cases hp : 0 ≤ h[k]'(by omega)
    · rw [dropK_yes hl (by omega) hp, if_pos hp]; simp [ih]
    · rw [dropK_no hl (by omega) hp, if_neg hp, ih]; omega
theorem dropK_map {g : Ins → Ins} {I : List Ins} {h : List Int} (k : Nat) : (dropK id I h k).map g = dropK g I h k := by
  unfold dropK
  rw [List.map_filterMap]
  congr 1
  funext e
  by_cases hp : 0 ≤ e.2 <;> simp [hp]
theorem dropK_mem {g : Ins → Ins} {I : List Ins} {h : List Int} {k : Nat} {i : Ins} (hi : i ∈ dropK g I h k) : ∃ j, j ∈ I ∧ i = g j := by
  unfold dropK at hi
  obtain ⟨e, he, hs⟩ := List.mem_filterMap.1 hi
  have hm : e ∈ I.zip h := List.mem_of_mem_take he
  have := List.of_mem_zip (a := e.1) (b := e.2) hm
  by_cases hp : 0 ≤ e.2
  · rw [if_pos hp] at hs; injection hs with hs; exact ⟨_, this.1, hs.symm⟩
  · rw [if_neg hp] at hs; cases hs
def patI (h : List Int) (i : Ins) : Ins := if isJ i.1 = true then (i.1, plI h i.2) else i
def rowI (h : List Int) (r : Row) : Row := (plI h r.1, plI h r.2.1, plI h r.2.2)
def dropRows (h : List Int) (rows : List Row) : List Row := (rows.map (rowI h)).filter fun r => decide (r.1 < r.2.1)
theorem dropRows_succ {h : List Int} {rows : List Row} {k : Nat} (hk : k < rows.length) : dropRows h (rows.take (k + 1)) = dropRows h (rows.take k) ++ (if (rowI h rows[k]).1 < (rowI h rows[k]).2.1 then [rowI h rows[k]] else []) := by
  unfold dropRows
  rw [List.take_succ_eq_append_getElem hk, List.map_append, List.filter_append]
  congr 1
  by_cases hp : (rowI h rows[k]).1 < (rowI h rows[k]).2.1 <;> simp [hp]
theorem dropRows_len (h : List Int) (rows : List Row) : (dropRows h rows).length ≤ rows.length := by
  unfold dropRows
  exact Nat.le_trans (List.length_filter_le _ _) (by simp)
def dropF (c : Code) (h : List Int) : Code := (c.1, c.2.1, c.2.2.1, dropK (patI h) c.2.2.2.1 h c.2.2.2.1.length, dropRows h c.2.2.2.2)
noncomputable def dropR (x : Image) (k : Int) : Code := if liveOk x k = true then dropF (x.getD k.toNat (0, 0, [], [], [])) (checkH x (x.getD k.toNat (0, 0, [], [], []))) else noCode
theorem dropR_no {x : Image} {k : Int} (h : liveOk x k = false) : dropR x k = noCode := by unfold dropR; rw [if_neg (by simp [h])]
theorem dropR_yes {x : Image} {j : Nat} (h : liveOk x (j : Int) = true) (hj : j < x.length) : dropR x (j : Int) = dropF x[j] (checkH x x[j]) := by
  unfold dropR; rw [if_pos h]; simp [List.getD, hj]
theorem isJ_or {op : Int} (h : isJ op = true) : op = 10 ∨ op = 11 := by unfold isJ at h; simpa using h
/-! ### a threaded code is good -/
section
variable {x y : Image} {c : Code}
theorem takes_par (hp : ∀ k, parF y k = parF x k) (i : Ins) : takesF y i = takesF x i := by unfold takesF; rw [hp]
theorem solH_par (hp : ∀ k, parF y k = parF x k) {I : List Ins} {rows : List Row} {h : List Int} (hs : SolH x I rows h) : SolH y I rows h :=
  ⟨hs.len, hs.ge, ⟨hs.cons.le, hs.cons.zero, hs.cons.pad, fun p hq => by
    obtain ⟨a, b⟩ := hs.cons.done p hq
    refine ⟨by rw [takes_par hp]; exact a, fun s hm => ?_⟩
    rw [b s hm]; unfold highAt; rw [takes_par hp]⟩, hs.reach⟩
theorem thrI_op (I : List Ins) (i : Ins) : (thrI I i).1 = i.1 := by unfold thrI; split <;> rfl
theorem thrI_no {I : List Ins} {i : Ins} (h : isJ i.1 = false) : thrI I i = i := by unfold thrI; rw [if_neg (by simp [h])]
theorem thrI_yes {I : List Ins} {i : Ins} (h : isJ i.1 = true) : thrI I i = (i.1, thrN I 300 i.2) := by unfold thrI; rw [if_pos h]
theorem nextF_mem {i : Ins} {p s : Int} : s ∈ nextF i p ↔ (i.1 = 10 ∧ s = i.2) ∨ (i.1 = 11 ∧ (s = p + 1 ∨ s = i.2)) ∨ (i.1 ≠ 10 ∧ i.1 ≠ 11 ∧ i.1 ≠ 13 ∧ i.1 ≠ 14 ∧ i.1 ≠ 16 ∧ i.1 ≠ 18 ∧ s = p + 1) := by
  unfold nextF
  by_cases h10 : i.1 = 10
  · rw [if_pos h10]; simp [h10]
  rw [if_neg h10]
  by_cases h11 : i.1 = 11
  · rw [if_pos h11]
    simp only [h10, h11, false_and, true_and, false_or, ne_eq, not_true_eq_false, and_false, or_false]
    split
    · simp
    · split
      · rename_i e; simp [e]
      · simp [or_comm]
  rw [if_neg h11]
  split
  · rename_i h
    simp only [List.not_mem_nil, false_iff]
    omega
  · simp only [List.mem_singleton]
    constructor
    · intro h; right; right; omega
    · omega
theorem takes_thr (I : List Ins) (i : Ins) : takesF x (thrI I i) = takesF x i := by
  by_cases h : isJ i.1 = true
  · rw [thrI_yes h]
    unfold isJ at h
    simp at h
    unfold takesF
    rcases h with h | h <;> simp [h]
  · rw [thrI_no (by simpa using h)]
theorem puts_thr (I : List Ins) (i : Ins) : putsF (thrI I i) = putsF i := by unfold putsF; rw [thrI_op]
theorem getD_thr (I : List Ins) (p : Nat) : (I.map (thrI I)).getD p (0, 0) = thrI I (I.getD p (0, 0)) := by
  simp only [List.getD, List.getElem?_map]
  cases I[p]? with
  | none => rfl
  | some v => rfl
theorem goes_thr {I : List Ins} (hg : goesB I = true) : goesB (I.map (thrI I)) = true := by
  unfold goesB
  refine List.all_eq_true.2 fun p hp => ?_
  rw [List.length_map] at hp
  have hp' := List.mem_range.1 hp
  have h := List.all_eq_true.1 hg p hp
  unfold goesI at h ⊢
  rw [getD_thr, List.length_map]
  have he : I.getD p (0, 0) = I[p] := by simp [List.getD, hp']
  rw [he] at h ⊢
  by_cases hj : isJ I[p].1 = true
  · rw [thrI_yes hj]
    have hn := thrN_in hg 300 _ (jump_in hg hp' hj)
    refine List.all_eq_true.2 fun s hs => ?_
    rw [nextF_mem] at hs
    simp only at hs
    unfold isJ at hj
    simp at hj
    rcases hj with hj | hj
    · have : s = thrN I 300 I[p].2 := by omega
      rw [this]; exact inB_iff.2 (by omega)
    · have h2 : s = (p : Int) + 1 ∨ s = thrN I 300 I[p].2 := by omega
      rcases h2 with h2 | h2
      · have hm : s ∈ nextF I[p] (p : Int) := nextF_mem.2 (by omega)
        exact List.all_eq_true.1 h s hm
      · rw [h2]; exact inB_iff.2 (by omega)
  · rw [thrI_no (by simpa using hj)]; exact h
theorem named_thr {I : List Ins} {v : Int} {s n : Nat} (h : I.all (namedI v s n) = true) : (I.map (thrI I)).all (namedI v s n) = true := by
  rw [List.all_map]
  refine List.all_eq_true.2 fun i hi => ?_
  have hh := List.all_eq_true.1 h i hi
  simp only [Function.comp]
  by_cases hj : isJ i.1 = true
  · rw [thrI_yes hj]
    unfold isJ at hj
    simp at hj
    unfold namedI
    rcases hj with hj | hj <;> simp [hj]
  · rw [thrI_no (by simpa using hj)]; exact hh
theorem thr_high {I : List Ins} {rows : List Row} {h : List Int} (hc : ConsH x I rows h) : ∀ (k : Nat) (n : Int), 0 ≤ hv h n → hv h (thrN I k n) = hv h n
  | 0, _, _ => rfl
  | k + 1, n, hn => by
    unfold thrN
    split
    · rename_i hj
      have hd := (hc.done n hn).2 (insAt I n).2 (nextF_mem.2 (Or.inl ⟨hj, rfl⟩))
      have he : hv h (insAt I n).2 = hv h n := by
        rw [hd]
        unfold highAt
        unfold insAt at hj
        have h1 : takesF x (I.getD n.toNat (0, 0)) = 0 := by unfold takesF; rw [hj]; simp
        have h2 : putsF (I.getD n.toNat (0, 0)) = 0 := by unfold putsF; rw [hj]; simp
        omega
      rw [thr_high hc k _ (by omega), he]
    · rfl
theorem thr_next {I : List Ins} {rows : List Row} {h : List Int} (hc : ConsH x I rows h) {p s : Int} (hp : 0 ≤ hv h p) (hs : s ∈ nextAt (I.map (thrI I)) p) : hv h s = highAt x I h p := by
  obtain ⟨h1, h2⟩ := hc.done p hp
  unfold nextAt at hs h2
  rw [getD_thr] at hs
  by_cases hj : isJ (I.getD p.toNat (0, 0)).1 = true
  · rw [thrI_yes hj] at hs
    have h3 := h2 (I.getD p.toNat (0, 0)).2 (nextF_mem.2 ((isJ_or hj).elim (fun e => Or.inl ⟨e, rfl⟩) (fun e => Or.inr (Or.inl ⟨e, Or.inr rfl⟩))))
    have h4 : 0 ≤ highAt x I h p := by have := putsF_bd (I.getD p.toNat (0, 0)); unfold highAt; omega
    have h5 := thr_high hc 300 (I.getD p.toNat (0, 0)).2 (by omega)
    rw [nextF_mem] at hs
    simp only at hs
    have h6 : s = thrN I 300 (I.getD p.toNat (0, 0)).2 ∨ ((I.getD p.toNat (0, 0)).1 = 11 ∧ s = p + 1) := by have := isJ_or hj; omega
    rcases h6 with h6 | h6
    · rw [h6, h5, h3]
    · exact h2 s (nextF_mem.2 (by omega))
  · rw [thrI_no (by simpa using hj)] at hs
    exact h2 s hs
theorem thr_reach {I : List Ins} {rows : List Row} {h : List Int} (hc : ConsH x I rows h) {p : Int} (hr : ReachH (I.map (thrI I)) rows p) : 0 ≤ hv h p := by
  induction hr with
  | zero => rw [hc.zero]; omega
  | pad hr => rw [hc.pad _ hr]; omega
  | @next p s _ hs ih =>
    rw [thr_next hc ih hs]
    have h1 := (hc.done p ih).1
    have := putsF_bd (I.getD p.toNat (0, 0))
    unfold highAt; omega
open Classical in
noncomputable def thrH (I : List Ins) (rows : List Row) (h : List Int) : List Int := (List.range h.length).map fun (p : Nat) => if ReachH (I.map (thrI I)) rows (p : Int) then hv h (p : Int) else -1
theorem thrH_hv {I : List Ins} {rows : List Row} {h : List Int} (hc : ConsH x I rows h) (p : Int) : (ReachH (I.map (thrI I)) rows p → hv (thrH I rows h) p = hv h p) ∧ (¬ ReachH (I.map (thrI I)) rows p → hv (thrH I rows h) p = -1) := by
  constructor
  · intro hr
    obtain ⟨a, b⟩ := hv_pos (thr_reach hc hr)
    obtain ⟨m, rfl⟩ : ∃ m : Nat, p = (m : Int) := ⟨p.toNat, by omega⟩
    have hm : m < h.length := by omega
    rw [hv_get (h := thrH I rows h) (by simp [thrH]; exact hm)]
    simp [thrH, hr]
  · intro hr
    unfold hv
    split
    · rename_i h0
      obtain ⟨m, rfl⟩ : ∃ m : Nat, p = (m : Int) := ⟨p.toNat, by omega⟩
      rcases Nat.lt_or_ge m h.length with hm | hm
      · simp [thrH, List.getD, hm, hr]
      · simp [thrH, List.getD, List.getElem?_eq_none, hm]
    · rfl
theorem thrH_sol {I : List Ins} {rows : List Row} {h : List Int} (hs : SolH x I rows h) : SolH x (I.map (thrI I)) rows (thrH I rows h) := by
  have hc := hs.cons
  have hh := fun p => thrH_hv hc p
  have hpos : ∀ p, 0 ≤ hv (thrH I rows h) p → ReachH (I.map (thrI I)) rows p := fun p hp => by
    apply Classical.byContradiction
    intro hn
    rw [(hh p).2 hn] at hp; omega
  refine ⟨by simp [thrH, hs.len], fun v hv => ?_, ⟨fun p => ?_, ?_, fun r hr => ?_, fun p hp => ?_⟩, hpos⟩
  · unfold thrH at hv
    obtain ⟨p, hp, rfl⟩ := List.mem_map.1 hv
    split
    · exact hv_ge hs.ge _
    · omega
  · by_cases hr : ReachH (I.map (thrI I)) rows p
    · rw [(hh p).1 hr]; exact hc.le p
    · rw [(hh p).2 hr]; omega
  · rw [(hh 0).1 .zero]; exact hc.zero
  · rw [(hh _).1 (.pad hr)]; exact hc.pad r hr
  · have hr := hpos p hp
    have e := (hh p).1 hr
    rw [e] at hp
    have hd := hc.done p hp
    refine ⟨?_, fun s hm => ?_⟩
    · rw [getD_thr, takes_thr, e]; exact hd.1
    · rw [(hh s).1 (.next hr hm), thr_next hc hp hm]
      unfold highAt
      rw [getD_thr, takes_thr, puts_thr, e]
/-- A threaded code of a good image is good. -/
theorem codeF_thr (hl : y.length = x.length) (hp : ∀ k, parF y k = parF x k) (h : codeF x c = 0) : codeF y (threadF c) = 0 := by
  obtain ⟨h1, h3, h4, l, hl1, hl2⟩ := codeF_0 h
  have h2 : c.2.2.1.all (siteB x) = true := by
    by_cases h2 : c.2.2.1.all (siteB x) = true
    · exact h2
    · rw [codeF_2 h1 (by simpa using h2)] at h; omega
  have hs := heightsF_sol hl1
  have hsol : SolH y (threadF c).2.2.2.1 (threadF c).2.2.2.2 (thrH c.2.2.2.1 c.2.2.2.2 l) := solH_par hp (thrH_sol hs)
  rw [codeF_h h1 h2 h3 h4, hl1] at h
  simp only at h
  have b6 : (List.range c.2.2.2.1.length).any (bad6 c.2.2.2.1 c.2.2.2.2 l) = false := by
    by_cases hb : (List.range c.2.2.2.1.length).any (bad6 c.2.2.2.1 c.2.2.2.2 l) = true
    · rw [if_pos hb] at h; omega
    · simpa using hb
  rw [if_neg (by simp [b6])] at h
  have b7 : (List.range c.2.2.2.1.length).any (bad7 c.2.2.2.1 l) = false := by
    by_cases hb : (List.range c.2.2.2.1.length).any (bad7 c.2.2.2.1 l) = true
    · rw [if_pos hb] at h; omega
    · simpa using hb
  have hh := fun p => thrH_hv hs.cons p
  have hle : ∀ p, hv (thrH c.2.2.2.1 c.2.2.2.2 l) p ≤ hv l p ∨ hv (thrH c.2.2.2.1 c.2.2.2.2 l) p = -1 := fun p => by
    by_cases hr : ReachH (c.2.2.2.1.map (thrI c.2.2.2.1)) c.2.2.2.2 p
    · exact Or.inl (by rw [(hh p).1 hr]; exact Int.le_refl _)
    · exact Or.inr ((hh p).2 hr)
  rw [codeF_h (x := y) (c := threadF c) ?_ ?_ (goes_thr h3) (by unfold threadF; simpa using h4), heightsF_some hsol]
  · simp only
    rw [if_neg, if_neg]
    · simp only [Bool.not_eq_true]
      rw [List.any_eq_false] at b7 ⊢
      intro p hp'
      have hb := b7 p (by simpa [threadF] using hp')
      unfold bad7 at hb ⊢
      have e : ((threadF c).2.2.2.1.getD p (0, 0)).1 = (c.2.2.2.1.getD p (0, 0)).1 := by unfold threadF; simp only; rw [getD_thr, thrI_op]
      rw [e]
      simp only [Bool.and_eq_true, decide_eq_true_eq, not_and] at hb ⊢
      intro h5
      apply hb
      have := hle (p : Int)
      omega
    · simp only [Bool.not_eq_true]
      rw [List.any_eq_false] at b6 ⊢
      intro p hp'
      have hb := b6 p (by simpa [threadF] using hp')
      unfold bad6 at hb ⊢
      have e : ((threadF c).2.2.2.1.getD p (0, 0)).1 = (c.2.2.2.1.getD p (0, 0)).1 := by unfold threadF; simp only; rw [getD_thr, thrI_op]
      rw [e]
      simp only [Bool.and_eq_true, decide_eq_true_eq, not_and] at hb ⊢
      intro h5
      apply hb
      refine ⟨?_, h5.2⟩
      have := hle (p : Int)
      have := h5.1
      omega
  · unfold namedB at h1 ⊢
    rw [hl]
    exact named_thr h1
  · have : siteB y = siteB x := by funext n; unfold siteB; rw [hl, hp]
    rw [this]; exact h2
theorem checkH_par (hp : ∀ k, parF y k = parF x k) (h : codeF x c = 0) (h' : codeF y c = 0) : checkH y c = checkH x c := by
  obtain ⟨_, _, _, l, hl1, hl2⟩ := codeF_0 h
  obtain ⟨_, _, _, l', hl1', hl2'⟩ := codeF_0 h'
  have := heightsF_some (solH_par hp (heightsF_sol hl1))
  rw [hl1'] at this
  injection this with e
  rw [hl2, hl2', e]
theorem parF_set {k : Nat} (hk : k < x.length) {c : Code} (hc : c.1 = x[k].1) (j : Int) : parF (x.set k c) j = parF x j := by
  unfold parF
  simp only [List.getD, List.getElem?_set]
  by_cases e : k = j.toNat
  · subst e
    rw [if_pos rfl, if_pos hk, List.getElem?_eq_getElem hk]; simpa using hc
  · rw [if_neg e]
end
/-- The tidied image. -/
noncomputable def tidyF (x : Image) : Image := x.map fun c => dropF (threadF c) (checkH x (threadF c))
noncomputable def tidyR (x : Image) : Image := if goodI x = true then tidyF x else []
theorem tidyR_no {x : Image} (h : goodI x = false) : tidyR x = [] := by unfold tidyR; rw [if_neg (by simp [h])]
theorem tidyR_yes {x : Image} (h : goodI x = true) : tidyR x = tidyF x := by unfold tidyR; rw [if_pos h]
end Go.Proofs.YtmnkgcjbckamnaaGreat
