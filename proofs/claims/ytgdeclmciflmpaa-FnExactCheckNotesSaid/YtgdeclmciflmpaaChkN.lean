/- What notes tell of an id, and which note is the first that is not right. Plain law. -/
import Derived.Test.YtgdeclmciflmpaaNotesI
set_option linter.unusedVariables false
set_option linter.unusedSimpArgs false
namespace Go.Proofs.Ytgdeclmciflmpaa
open Go.RowKit
/-- What the notes of an id have told: whether it is ended, whether one is off, its puts, those that are open. -/
abbrev NtSt := Bool × Bool × List Int × List Int
def openF (l : List Note) (id : Int) : List Int := (sites 1 id l).filter fun s => !(sites 2 id l).contains s
def stOf (l : List Note) (id : Int) : NtSt := (!(sites 3 id l).isEmpty, !(sites 2 id l).isEmpty, sites 1 id l, openF l id)
def lastOk (o : List Int) (s : Int) : Bool := o.getLast? == some s
def codeOf (s : NtSt) (n : Note) : Int :=
  if s.1 = true then 1 else if (n.1 == 1 && s.2.2.1.contains n.2.2) = true then 2 else if (n.1 == 2 && !lastOk s.2.2.2 n.2.2) = true then 3 else if (n.1 == 1 && s.2.1) = true then 4 else if (n.1 == 3 && !s.2.2.2.isEmpty) = true then 5 else 0
def nextOf (s : NtSt) (n : Note) : NtSt :=
  if n.1 = 1 then (s.1, s.2.1, s.2.2.1 ++ [n.2.2], s.2.2.2 ++ [n.2.2]) else if n.1 = 2 then (s.1, true, s.2.2.1, s.2.2.2.dropLast) else (true, s.2.1, s.2.2.1, s.2.2.2)
theorem code_range (s : NtSt) (n : Note) : 0 ≤ codeOf s n ∧ codeOf s n ≤ 5 := by
  unfold codeOf
  repeat' split
  all_goals omega
def wrongAt (l : List Note) (k : Nat) : Int := codeOf (stOf (l.take k) (l.getD k (0, 0, 0)).2.1) (l.getD k (0, 0, 0))
def chkR (l : List Note) : Int × Int :=
  match (List.range l.length).find? (fun k => decide (wrongAt l k ≠ 0)) with
  | some k => (wrongAt l k, (k : Int))
  | none => (0, (l.length : Int))
theorem find_first {p : Nat → Bool} {n k : Nat} (hk : k < n) (hp : p k = true) (h : ∀ j, j < k → p j = false) : (List.range n).find? p = some k := by
  rw [List.find?_range_eq_some]
  exact ⟨hp, List.mem_range.2 hk, fun j hj => by simp [h j hj]⟩
theorem chk_at {l : List Note} {k : Nat} {c : Int} (h : ∀ j, j < k → wrongAt l j = 0) (hk : k < l.length) (hc : wrongAt l k = c) (h0 : c ≠ 0) : chkR l = (c, (k : Int)) := by
  unfold chkR
  rw [find_first hk (by simp [hc, h0]) (fun j hj => by simp [h j hj])]
  simp [hc]
theorem chk_end {l : List Note} (h : ∀ j, j < l.length → wrongAt l j = 0) : chkR l = (0, (l.length : Int)) := by
  unfold chkR
  have e : (List.range l.length).find? (fun k => decide (wrongAt l k ≠ 0)) = none := by
    rw [List.find?_eq_none]
    intro k hk
    simp [h k (List.mem_range.1 hk)]
  rw [e]
theorem sites_snoc (kind id : Int) (l : List Note) (n : Note) : sites kind id (l ++ [n]) = sites kind id l ++ (if n.1 = kind ∧ n.2.1 = id then [n.2.2] else []) := by
  unfold sites
  rw [List.filter_append, List.map_append]
  congr 1
  by_cases h : n.1 = kind ∧ n.2.1 = id
  · rw [if_pos h]; simp [sitesP, h.1, h.2]
  · rw [if_neg h]
    have : sitesP kind id n = false := by unfold sitesP; simpa using h
    simp [this]
theorem filter_ne_last {l : List Int} {s : Int} (hn : l.Nodup) (hl : l.getLast? = some s) : l.filter (fun x => !(x == s)) = l.dropLast := by
  have e : l = l.dropLast ++ [s] := by
    rcases List.eq_nil_or_concat l with h | ⟨a, b, h⟩
    · subst h; simp at hl
    · subst h
      simp at hl
      subst hl
      simp
  have hn2 := hn
  rw [e, List.nodup_append] at hn2
  conv => lhs; rw [e]
  rw [List.filter_append]
  have h1 : l.dropLast.filter (fun x => !(x == s)) = l.dropLast := by
    rw [List.filter_eq_self]
    intro x hx
    have := hn2.2.2 x hx s (by simp)
    simpa using this
  rw [h1]
  simp
theorem isEmpty_snoc (l : List Int) (a : Int) : (l ++ [a]).isEmpty = false := by cases l <;> rfl
/-- One note that is right: what is told of its id goes on; of no other id is anything told. -/
theorem st_step {l : List Note} {n : Note} (hn : noteOk n = true) (hc : codeOf (stOf l n.2.1) n = 0) (hd : (sites 1 n.2.1 l).Nodup) : stOf (l ++ [n]) n.2.1 = nextOf (stOf l n.2.1) n ∧ (sites 1 n.2.1 (l ++ [n])).Nodup := by
  unfold codeOf at hc
  by_cases c1 : (stOf l n.2.1).1 = true
  · rw [if_pos c1] at hc; omega
  rw [if_neg c1] at hc
  by_cases c2 : (n.1 == 1 && (stOf l n.2.1).2.2.1.contains n.2.2) = true
  · rw [if_pos c2] at hc; omega
  rw [if_neg c2] at hc
  by_cases c3 : (n.1 == 2 && !lastOk (stOf l n.2.1).2.2.2 n.2.2) = true
  · rw [if_pos c3] at hc; omega
  rw [if_neg c3] at hc
  by_cases c4 : (n.1 == 1 && (stOf l n.2.1).2.1) = true
  · rw [if_pos c4] at hc; omega
  rw [if_neg c4] at hc
  by_cases c5 : (n.1 == 3 && !(stOf l n.2.1).2.2.2.isEmpty) = true
  · rw [if_pos c5] at hc; omega
  have hk : n.1 = 1 ∨ n.1 = 2 ∨ n.1 = 3 := by
    unfold noteOk at hn
    simp only [Bool.and_eq_true] at hn
    have := inB_iff.1 hn.1.1.1
    omega
  rcases hk with hk | hk | hk
  · have e1 : sites 1 n.2.1 (l ++ [n]) = sites 1 n.2.1 l ++ [n.2.2] := by rw [sites_snoc, if_pos ⟨hk, rfl⟩]
    have e2 : sites 2 n.2.1 (l ++ [n]) = sites 2 n.2.1 l := by rw [sites_snoc, if_neg (by omega)]; simp
    have e3 : sites 3 n.2.1 (l ++ [n]) = sites 3 n.2.1 l := by rw [sites_snoc, if_neg (by omega)]; simp
    have h2 : sites 2 n.2.1 l = [] := by simpa [hk, stOf] using c4
    have hno : n.2.2 ∉ sites 1 n.2.1 l := by simpa [hk, stOf] using c2
    refine ⟨?_, ?_⟩
    · unfold stOf openF nextOf
      rw [if_pos hk, e1, e2, e3, h2]
      simp
    · rw [e1, List.nodup_append]
      exact ⟨hd, by simp, fun x hx y hy e => by rw [List.mem_singleton] at hy; subst hy; subst e; exact hno hx⟩
  · have e1 : sites 1 n.2.1 (l ++ [n]) = sites 1 n.2.1 l := by rw [sites_snoc, if_neg (by omega)]; simp
    have e2 : sites 2 n.2.1 (l ++ [n]) = sites 2 n.2.1 l ++ [n.2.2] := by rw [sites_snoc, if_pos ⟨hk, rfl⟩]
    have e3 : sites 3 n.2.1 (l ++ [n]) = sites 3 n.2.1 l := by rw [sites_snoc, if_neg (by omega)]; simp
    have hl : (openF l n.2.1).getLast? = some n.2.2 := by simpa [hk, stOf, lastOk] using c3
    refine ⟨?_, by rw [e1]; exact hd⟩
    have ho : openF (l ++ [n]) n.2.1 = (openF l n.2.1).dropLast := by
      rw [← filter_ne_last (l := openF l n.2.1) (List.Pairwise.filter _ hd) hl]
      unfold openF
      rw [e1, e2, List.filter_filter]
      congr 1
      funext x
      simp only [List.contains_append, List.contains_cons, List.contains_nil, Bool.or_false, Bool.not_or]
      rw [Bool.and_comm]
    unfold stOf nextOf
    rw [if_neg (by omega), if_pos hk, e1, e2, e3, ho, isEmpty_snoc]
    rfl
  · have e1 : sites 1 n.2.1 (l ++ [n]) = sites 1 n.2.1 l := by rw [sites_snoc, if_neg (by omega)]; simp
    have e2 : sites 2 n.2.1 (l ++ [n]) = sites 2 n.2.1 l := by rw [sites_snoc, if_neg (by omega)]; simp
    have e3 : sites 3 n.2.1 (l ++ [n]) = sites 3 n.2.1 l ++ [n.2.2] := by rw [sites_snoc, if_pos ⟨hk, rfl⟩]
    refine ⟨?_, by rw [e1]; exact hd⟩
    unfold stOf nextOf openF
    rw [if_neg (by omega), if_neg (by omega), e1, e2, e3, isEmpty_snoc]
    rfl
theorem st_other {l : List Note} {n : Note} {id : Int} (h : ¬ n.2.1 = id) : stOf (l ++ [n]) id = stOf l id ∧ sites 1 id (l ++ [n]) = sites 1 id l := by
  have e : ∀ kind, sites kind id (l ++ [n]) = sites kind id l := fun kind => by rw [sites_snoc, if_neg (fun q => h q.2)]; simp
  unfold stOf openF
  rw [e, e, e]
  exact ⟨rfl, rfl⟩
/-- Of an id that has no note nothing is told. -/
theorem st_none {l : List Note} {id : Int} (h : ∀ n, n ∈ l → n.2.1 ≠ id) : stOf l id = (false, false, [], []) := by
  have e : ∀ kind, sites kind id l = [] := fun kind => by
    unfold sites
    rw [List.map_eq_nil_iff, List.filter_eq_nil_iff]
    intro n hn
    unfold sitesP
    simp [h n hn]
  unfold stOf openF
  rw [e, e, e]
  rfl
end Go.Proofs.Ytgdeclmciflmpaa
