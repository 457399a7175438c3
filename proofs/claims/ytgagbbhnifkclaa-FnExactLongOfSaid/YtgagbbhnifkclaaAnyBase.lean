/- Where the first of a kind stands in a list. Plain lemmas. -/
import Derived.Test.YtgagbbhnifkclaaBase
namespace Go.Proofs.Ytgagbbhnifkclaa
open Go.RowKit
/-- The place of the first that says yes, or -1. -/
def idxW {α : Type} (p : α → Bool) (l : List α) : Int := match l.findIdx? p with | some k => (k : Int) | none => -1
def RetIx (r : Int) (w : World) (e : Ending) (w' : World) : Prop := e = .returned (.int .i64 r) ∧ Below w.heap.size w w'
theorem rfl_ix {a b : Int} (h : a = b) : Ending.returned (.int .i64 a) = .returned (.int .i64 b) := by rw [h]
theorem idxW_at {α : Type} {p : α → Bool} {l : List α} {k : Nat} (hk : k < l.length) (h : (l.take k).any p = false) (hp : p l[k] = true) : idxW p l = (k : Int) := by
  have : l.findIdx? p = some k := by
    rw [List.findIdx?_eq_some_iff_getElem]
    refine ⟨hk, hp, fun j hj => ?_⟩
    rw [List.any_eq_false] at h
    exact h _ (List.mem_take_iff_getElem.2 ⟨j, by omega, rfl⟩)
  rw [idxW, this]
theorem idxW_none {α : Type} {p : α → Bool} {l : List α} (h : l.any p = false) : idxW p l = -1 := by
  have : l.findIdx? p = none := by
    rw [List.findIdx?_eq_none_iff]
    intro x hx
    rw [List.any_eq_false] at h
    simpa using h x hx
  rw [idxW, this]
theorem idxW_any {α : Type} (p : α → Bool) (l : List α) : decide (0 ≤ idxW p l) = l.any p := by
  unfold idxW
  rcases h : l.findIdx? p with _ | k
  · rw [List.findIdx?_eq_none_iff] at h
    simp only
    rw [eq_comm, show (decide ((0 : Int) ≤ -1)) = false from rfl, List.any_eq_false]
    intro x hx; simpa using h x hx
  · rw [List.findIdx?_eq_some_iff_getElem] at h
    obtain ⟨hk, hp, _⟩ := h
    simp only
    rw [show decide ((0 : Int) ≤ (k : Int)) = true by simp, eq_comm, List.any_eq_true]
    exact ⟨_, List.getElem_mem hk, hp⟩
theorem any_take_succ {α : Type} {p : α → Bool} {l : List α} {k : Nat} (h : (l.take k).any p = false) (hk : k < l.length) (hp : p l[k] = false) : (l.take (k + 1)).any p = false := by
  rw [List.take_succ_eq_append_getElem hk, List.any_append, h]; simpa using hp
theorem any_true {α : Type} {p : α → Bool} {l : List α} {k : Nat} (hk : k < l.length) (hp : p l[k] = true) : l.any p = true := by
  rw [List.any_eq_true]; exact ⟨_, List.getElem_mem hk, hp⟩
theorem any_not_all {α : Type} (p : α → Bool) (l : List α) : (!(l.any fun x => !p x)) = l.all p := by
  induction l with
  | nil => rfl
  | cons x l ih => rw [List.any_cons, List.all_cons, Bool.not_or, ih, Bool.not_not]
theorem all_take_succ {α : Type} {p : α → Bool} {l : List α} {k : Nat} (h : (l.take k).all p = true) (hk : k < l.length) (hp : p l[k] = true) : (l.take (k + 1)).all p = true := by
  rw [List.take_succ_eq_append_getElem hk, List.all_append, h]; simpa using hp
theorem all_false {α : Type} {p : α → Bool} {l : List α} {k : Nat} (hk : k < l.length) (hp : p l[k] = false) : l.all p = false := by
  rw [List.all_eq_false]; exact ⟨_, List.getElem_mem hk, by simpa using hp⟩
end Go.Proofs.Ytgagbbhnifkclaa
