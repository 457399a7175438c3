/- Notes, the program's side: whether notes are as said; what is taken out of them. Walks. -/
import Derived.Test.YtgdeclmciflmpaaTyVx
set_option linter.unusedVariables false
set_option linter.unusedSimpArgs false
namespace Go.Proofs.Ytgdeclmciflmpaa
open Go.RowKit

/-- An index, or -1: found or not. -/
def RetIdx (b : Bool) (w : World) (e : Ending) (w' : World) : Prop := ∃ r : Int, e = .returned (.int .i64 r) ∧ decide (0 ≤ r) = b ∧ Below w.heap.size w w'
theorem areNotes1 (w : World) (x y z : Int) : Calls Try.prog 80 #[.agg #[.int .i64 x, .int .i64 y, .int .i64 z]] w (RetB (!noteOk (x, y, z)) w) := by
  go_enter Try.func80, Try.ntmps80
  go_wp2_with (go_at_call 77; refine (implWithin _ _ _ _).mono ?_; rintro e w2 ⟨rfl, rfl⟩)
  all_goals
    go_ret
    exact RetB.mk (by simp_all [noteOk]) (by exact belA)

theorem implAreNotes (w : World) (lo hi n c : Nat) (A : Option Addr) (l : List Note) (h : Sl noteR w lo hi A n c l) (hh : hi ≤ w.heap.size) :
    Calls Try.prog 46 #[.slice A n c] w (RetB (goodNotes l) w) := by
  have e1 := h.lenEq
  by_cases hn : n ≤ 3000
  · have hd : decide ((n : Int) ≤ 3000) = true := by simp; omega
    go_enter Try.func46, Try.ntmps46
    go_wp2_with fail
    refine (conFuncNote 80 #[] (fun x => !noteOk x) _ lo hi n c A l h hh (fun _ _ => by kernel_rfl) (fun W x y z _ _ _ _ _ => areNotes1 W x y z)).mono ?_
    rintro e w2 ⟨rfl, hb⟩
    go_wp2_with fail
    go_ret
    exact RetB.mk (by rw [goodNotes, ← any_not_all, e1, decide_eq_true hn, Bool.and_true]) hb
  · have hd : decide ((n : Int) ≤ 3000) = false := by simp; omega
    go_enter Try.func46, Try.ntmps46
    go_wp2_with fail
    go_ret
    exact RetB.mk (by rw [goodNotes, e1, decide_eq_false hn, Bool.and_false]) (Below.refl _ _)

def sitesP (kind id : Int) (x : Note) : Bool := x.1 == kind && x.2.1 == id
def sites (kind id : Int) (l : List Note) : List Int := (l.filter (sitesP kind id)).map fun x => x.2.2
theorem sites_len (kind id : Int) (l : List Note) : (sites kind id l).length ≤ l.length := by simp [sites]; exact List.length_filter_le _ _
theorem sites_yes {kind id : Int} {l : List Note} {k : Nat} (hk : k < l.length) (hp : sitesP kind id l[k] = true) : sites kind id (l.take (k + 1)) = sites kind id (l.take k) ++ [l[k].2.2] := by
  unfold sites; rw [List.take_succ_eq_append_getElem hk, List.filter_append, List.map_append]; simp [List.filter_cons, hp]
theorem sites_no {kind id : Int} {l : List Note} {k : Nat} (hk : k < l.length) (hp : sitesP kind id l[k] = false) : sites kind id (l.take (k + 1)) = sites kind id (l.take k) := by
  unfold sites; rw [List.take_succ_eq_append_getElem hk, List.filter_append, List.map_append]; simp [List.filter_cons, hp]
theorem Sl.notes64 {w : World} {lo hi : Nat} {A : Option Addr} {n c : Nat} {l : List Note} (h : Sl noteR w lo hi A n c l) : ∀ x, x ∈ l → I64 x.1 ∧ I64 x.2.1 ∧ I64 x.2.2 := by
  intro x hx
  obtain ⟨k, hk, rfl⟩ := List.getElem_of_mem hx
  obtain ⟨_, _, a, b, d, _, _, _, e, i1, i2, i3, _⟩ := h.note_at (k := k) (by have := h.1; omega)
  rw [e]; exact ⟨i1, i2, i3⟩
theorem sites64 {kind id : Int} {l : List Note} (h : ∀ x, x ∈ l → I64 x.1 ∧ I64 x.2.1 ∧ I64 x.2.2) : ∀ x, x ∈ sites kind id l → I64 x := by
  intro x hx
  obtain ⟨y, hy, rfl⟩ := List.mem_map.1 hx
  exact (h y (List.mem_filter.1 hy).1).2.2

set_option maxRecDepth 100000 in
theorem specL11Of (w : World) (lo hi n c : Nat) (A : Option Addr) (l : List Note) (kind id : Int) (h : Sl noteR w lo hi A n c l) (hh : hi ≤ w.heap.size) (hn : n ≤ 1048576) :
    Calls Try.prog 60 #[.slice A n c, .int .i64 id, .int .i64 kind] w (RetOwn intR 3 (sites kind id l) w) := by
  have e1 := h.lenEq
  obtain ⟨i0, hi0, hz0, hz1, hz2⟩ := info_parts Try.infoInt
  go_enter Try.func60, Try.ntmps60
  go_wp2
  go_loopw [7, 12] (fun v i wr => ∃ k : Nat, k ≤ n ∧ i = .int .i64 k ∧ wr.ownsRow w.heap.size 3 1 v (sites kind id (l.take k)).length ((sites kind id (l.take k)).map (Value.int .i64)) ∧ Below w.heap.size w wr) (fun _ i _ => n - (intOf i).toNat)
  case atStart => exact ⟨0, Nat.zero_le _, rfl, by simpa [sites] using World.ownsRow_nil _ _ _ _, Below.refl _ _⟩
  case round =>
    obtain ⟨k, hk, rfl, ho, hb⟩ := hrel
    by_cases hlt : k < n
    · obtain ⟨b, o, x, y, z, rfl, _, _, hl0, _, _, _, hc1, hc2, hc3⟩ := (h.below hb hh).note_at hlt
      by_cases hp : sitesP kind id (x, y, z) = true
      · have hs := Lib.hid (sites_yes (kind := kind) (id := id) (l := l) (k := k) (by omega) (by rw [hl0]; exact hp))
        rw [hl0] at hs
        obtain ⟨rfl, rfl⟩ : x = kind ∧ y = id := by simpa [sitesP] using hp
        have hsl := sites_len x y (l.take k)
        rw [List.length_take] at hsl
        have hbs := hb.size
        clear hl0 hp
        go_wp2_with (at_builtin; refine wpList_append_own _ rfl _ _ 30 rfl w.heap.size 3 i0 (.int .i64 0) 1 8 Try.underlying30 hi0 hz0 hz1 hz2 rfl (by decide) _ _ _ rfl ((ho.alloc _).alloc _) ⟨wr.heap.size + 1, 0, none⟩ 1 1 [.int .i64 z] rfl rfl (cell_new1 _ _ _ (by simp)) (by simp [Value.oneCell']) (by unfold maxLen; omega) (by omega) (by simp; omega) ?_)
        intro v' w2 hown hgr _
        have hb2 := below_own ho hgr (by exact belA)
        have ho2 : w2.ownsRow w.heap.size 3 1 v' (sites x y (l.take (k + 1))).length ((sites x y (l.take (k + 1))).map (Value.int .i64)) := by
          rw [hs.out]; simpa using hown
        clear hown hgr ho
        go_wp2
        go_roundw
        case rel => exact ⟨k + 1, by omega, by go_num, ho2, hb2⟩
        case measure => simp [intOf]; omega
      · have hp : sitesP kind id (x, y, z) = false := by simpa using hp
        have hs := sites_no (kind := kind) (id := id) (l := l) (k := k) (by omega) (by rw [hl0]; exact hp)
        rw [← hs] at ho
        clear hs
        clear hl0
        by_cases h1 : y = id
        · have h2 : (x == kind) = false := by simp [sitesP, h1] at hp; simpa using hp
          have h1 : (y == id) = true := by simpa using h1
          clear hp
          go_wp2
          go_roundw
          case rel => exact ⟨k + 1, by omega, by go_num, ho.alloc _, by exact belA⟩
          case measure => simp [intOf]; omega
        · have h1 : (y == id) = false := by simpa using h1
          clear hp
          go_wp2
          go_roundw
          case rel => exact ⟨k + 1, by omega, by go_num, ho.alloc _, by exact belA⟩
          case measure => simp [intOf]; omega
    · rw [List.take_of_length_le (by omega)] at ho
      go_wp2
      go_ret
      exact RetOwn.ints ho (sites64 h.notes64) hb

def sitesRes (kind id : Int) (l : List Note) : List Int := if goodNotes l = true then sites kind id l else []





def endsF (l : List Note) : List Int := (l.filter fun x => x.1 == 3).map fun x => x.2.1
def endsRes (l : List Note) : List Int := if goodNotes l = true then endsF l else []
theorem ends_len (l : List Note) : (endsF l).length ≤ l.length := by simp [endsF]; exact List.length_filter_le _ _
theorem ends_yes {l : List Note} {k : Nat} (hk : k < l.length) (hp : l[k].1 = 3) : endsF (l.take (k + 1)) = endsF (l.take k) ++ [l[k].2.1] := by
  unfold endsF; rw [List.take_succ_eq_append_getElem hk, List.filter_append, List.map_append]; simp [List.filter_cons, hp]
theorem ends_no {l : List Note} {k : Nat} (hk : k < l.length) (hp : ¬ l[k].1 = 3) : endsF (l.take (k + 1)) = endsF (l.take k) := by
  unfold endsF; rw [List.take_succ_eq_append_getElem hk, List.filter_append, List.map_append]; simp [List.filter_cons, hp]
theorem ends64 {l : List Note} (h : ∀ x, x ∈ l → I64 x.1 ∧ I64 x.2.1 ∧ I64 x.2.2) : ∀ x, x ∈ endsRes l → I64 x := by
  intro x hx
  unfold endsRes at hx
  split at hx
  · obtain ⟨y, hy, rfl⟩ := List.mem_map.1 hx
    exact (h y (List.mem_filter.1 hy).1).2.1
  · simp at hx


theorem endsRes_len (l : List Note) : (endsRes l).length ≤ l.length := by
  unfold endsRes; split
  · exact ends_len l
  · simp
theorem sitesRes_len (kind id : Int) (l : List Note) : (sitesRes kind id l).length ≤ l.length := by
  unfold sitesRes; split
  · exact sites_len kind id l
  · simp
end Go.Proofs.Ytgdeclmciflmpaa
