/- A map that the call has made, as a list of keys and values: lookups and stores. Plain lemmas over the kit's word 'Keyed'. -/
import Derived.Test.YtgdeclmciflmpaaKit1
import Derived.Maps.Own
set_option linter.unusedVariables false
set_option linter.unusedSimpArgs false
namespace Go.Proofs.Ytgdeclmciflmpaa
open Go.RowKit
open Go.Maps (Keyed)
section
variable {P : Program} {k e t : TypeId} {w w' : World} {b : Nat} {L : List (Value × Value)}
/-- Block b of w is a map whose entries are L, in the order in which they came. -/
def MapIs (P : Program) (k : TypeId) (w : World) (b : Nat) (L : List (Value × Value)) : Prop :=
  ∃ es clock, w.heap[b]? = some (.map es clock) ∧ es.toList.map (fun x => (x.key, x.val)) = L ∧ ∀ p, p ∈ L → ∃ l, keyOf P k p.1 = some l
theorem MapIs.made (P : Program) (k : TypeId) (w : World) : MapIs P k (w.alloc (.map #[] 0)) w.heap.size [] :=
  ⟨#[], 0, (MapKept.heap_alloc w _).1, rfl, fun p hp => by cases hp⟩
theorem MapIs.keep (h : MapIs P k w b L) (hk : w'.heap[b]? = w.heap[b]?) : MapIs P k w' b L := by
  obtain ⟨es, clock, hb, r⟩ := h
  exact ⟨es, clock, hk.trans hb, r⟩
theorem MapIs.lt (h : MapIs P k w b L) : b < w.heap.size := by
  obtain ⟨es, clock, hb, _⟩ := h
  exact (Array.getElem?_eq_some_iff.1 hb).1
theorem MapIs.keys {es : List MapEntry} (he : es.map (fun x => (x.key, x.val)) = L) (hL : ∀ p, p ∈ L → ∃ l, keyOf P k p.1 = some l) : ∀ x, x ∈ es → ∃ l, keyOf P k x.key = some l := fun x hx =>
  hL (x.key, x.val) (he ▸ List.mem_map.2 ⟨x, hx, rfl⟩)
/-- m[key]: the zero value, and no entry has the key; or the value of an entry with the key. -/
theorem MapIs.look (h : MapIs P k w b L) (K : Keyed P k) (ht : P.underlying t = some (.map k e)) {z : Value} (hz : (zeroValue e).run P w = .ok z w) {key : Value} {kl : Lit} (hkey : keyOf P k key = some kl) :
    ((Instr.lookup t (.map (some b)) key false).run P w = .ok z w ∧ ∀ p, p ∈ L → p.1 ≠ key) ∨ ∃ v, (key, v) ∈ L ∧ (Instr.lookup t (.map (some b)) key false).run P w = .ok v w := by
  obtain ⟨es, clock, hb, he, hL⟩ := h
  rcases K.find w hkey es.toList (MapIs.keys he hL) with ⟨h1, h2⟩ | ⟨j, e0, h1, h2, h3⟩
  · refine Or.inl ⟨by simp [Instr.lookup, run_underlying ht, MapKept.run_getObj_map hb, K.check w _ hkey, h1, hz, Result.andThen], fun p hp => ?_⟩
    rw [← he] at hp
    obtain ⟨x, hx, rfl⟩ := List.mem_map.1 hp
    exact h2 x hx
  · refine Or.inr ⟨e0.val, ?_, by simp [Instr.lookup, run_underlying ht, MapKept.run_getObj_map hb, K.check w _ hkey, h1, Result.andThen]⟩
    rw [← he, ← h3]
    exact List.mem_map.2 ⟨e0, List.mem_of_getElem? h2, rfl⟩
theorem fr_setBlock {es : Array MapEntry} {clock : Nat} (hb : w.heap[b]? = some (.map es clock)) (o : Obj) : Fr [b] w (ChangeMaps.setBlock w b o) :=
  ⟨rfl, rfl, rfl, by simp [ChangeMaps.setBlock], fun i _ hi => ChangeMaps.heap_setBlock_other hb _ (fun e => hi (by rw [e]; simp))⟩
/-- m[key] = val at a key that no entry has. -/
theorem MapIs.new (h : MapIs P k w b L) (K : Keyed P k) (ht : P.underlying t = some (.map k e)) {key : Value} {kl : Lit} (hkey : keyOf P k key = some kl) (hno : ∀ p, p ∈ L → p.1 ≠ key) (val : Value) :
    ∃ w', (Instr.mapUpdate t (.map (some b)) key val).run P w = .ok () w' ∧ MapIs P k w' b (L ++ [(key, val)]) ∧ Fr [b] w w' := by
  obtain ⟨es, clock, hb, he, hL⟩ := h
  rcases K.find w hkey es.toList (MapIs.keys he hL) with ⟨h1, h2⟩ | ⟨j, e0, h1, h2, h3⟩
  · refine ⟨ChangeMaps.setBlock w b (.map (es.push ⟨key, val, clock⟩) (clock + 1)), by simp [Instr.mapUpdate, run_underlying ht, MapKept.run_getObj_map hb, K.check w false hkey, h1, MapKept.run_setObj_map _ hb, Result.andThen, ChangeMaps.setBlock], ⟨_, _, ChangeMaps.heap_setBlock_same hb _, by simp [he], fun p hp => ?_⟩, fr_setBlock hb _⟩
    rcases List.mem_append.1 hp with hp | hp
    · exact hL p hp
    · rw [List.mem_singleton] at hp
      subst hp
      exact ⟨kl, hkey⟩
  · exact absurd h3 (hno (e0.key, e0.val) (he ▸ List.mem_map.2 ⟨e0, List.mem_of_getElem? h2, rfl⟩))
/-- m[key] = val where every entry with the key has this value: nothing is told anew, or one entry more. -/
theorem MapIs.set (h : MapIs P k w b L) (K : Keyed P k) (ht : P.underlying t = some (.map k e)) {key : Value} {kl : Lit} (hkey : keyOf P k key = some kl) (val : Value) (hs : ∀ p, p ∈ L → p.2 = val) :
    ∃ w' L', (Instr.mapUpdate t (.map (some b)) key val).run P w = .ok () w' ∧ MapIs P k w' b L' ∧ (∀ p, p ∈ L' ↔ p ∈ L ∨ p = (key, val)) ∧ Fr [b] w w' := by
  by_cases hno : ∀ p, p ∈ L → p.1 ≠ key
  · obtain ⟨w', h1, h2, h3⟩ := h.new K ht hkey hno val
    exact ⟨w', _, h1, h2, fun p => by simp, h3⟩
  obtain ⟨es, clock, hb, he, hL⟩ := h
  rcases K.find w hkey es.toList (MapIs.keys he hL) with ⟨h1, h2⟩ | ⟨j, e0, h1, h2, h3⟩
  · refine absurd (fun p hp => ?_) hno
    rw [← he] at hp
    obtain ⟨x, hx, rfl⟩ := List.mem_map.1 hp
    exact h2 x hx
  have hj : es[j]? = some e0 := by simpa using h2
  have hm : (e0.key, e0.val) ∈ L := he ▸ List.mem_map.2 ⟨e0, List.mem_of_getElem? h2, rfl⟩
  have hv : e0.val = val := hs _ hm
  have hself : (es.modify j (fun e' => { e' with key := key, val := val })).toList = es.toList := by
    rw [Array.toList_modify]
    apply List.ext_getElem?
    intro i
    rw [List.getElem?_modify]
    by_cases hij : j = i
    · subst hij
      rw [h2]
      simp only [if_true, Option.map_some, Option.some.injEq]
      cases e0
      simp only at h3 hv
      subst h3 hv
      rfl
    · simp [hij]
  refine ⟨ChangeMaps.setBlock w b (.map (es.modify j (fun e' => { e' with key := key, val := val })) clock), L, by simp [Instr.mapUpdate, run_underlying ht, MapKept.run_getObj_map hb, K.check w false hkey, h1, hj, h3, K.stays w hkey, MapKept.run_setObj_map _ hb, Result.andThen, ChangeMaps.setBlock], ⟨_, _, ChangeMaps.heap_setBlock_same hb _, by rw [hself]; exact he, hL⟩, fun p => ?_, fr_setBlock hb _⟩
  constructor
  · exact Or.inl
  · rintro (hp | rfl)
    · exact hp
    · rw [← h3, ← hv]; exact hm
end
end Go.Proofs.Ytgdeclmciflmpaa
