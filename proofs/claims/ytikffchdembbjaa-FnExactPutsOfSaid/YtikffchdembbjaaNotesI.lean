/- Notes, the program's side: whether notes are as said; what is taken out of them. Walks. -/
import Derived.Test.YtikffchdembbjaaNotes
set_option linter.unusedVariables false
set_option linter.unusedSimpArgs false
namespace Go.Proofs.Ytikffchdembbjaa
open Go.RowKit

/-- An index, or -1: found or not. -/
def RetIdx (b : Bool) (w : World) (e : Ending) (w' : World) : Prop := ∃ r : Int, e = .returned (.int .i64 r) ∧ decide (0 ≤ r) = b ∧ Below w.heap.size w w'

theorem any_take_succ {α : Type} {p : α → Bool} {l : List α} {k : Nat} (h : (l.take k).any p = false) (hk : k < l.length) (hp : p l[k] = false) : (l.take (k + 1)).any p = false := by
  rw [List.take_succ_eq_append_getElem hk, List.any_append, h]; simpa using hp
theorem any_true {α : Type} {p : α → Bool} {l : List α} {k : Nat} (hk : k < l.length) (hp : p l[k] = true) : l.any p = true := by
  rw [List.any_eq_true]; exact ⟨_, List.getElem_mem hk, hp⟩

theorem idxFuncNote (g : FuncId) (cap : Array Value) (p : Note → Bool) (w : World) (lo hi n c : Nat) (A : Option Addr) (l : List Note) (h : Sl noteR w lo hi A n c l) (hh : hi ≤ w.heap.size)
    (eg : ∀ (args : Array Value) (w : World), (callFunc g args).run Try.prog w = .ok (.enter g args) w)
    (hp : ∀ (W : World) (x y z : Int), (x, y, z) ∈ l → Below w.heap.size w W → Calls Try.prog g (#[.agg #[.int .i64 x, .int .i64 y, .int .i64 z]] ++ cap) W (RetB (p (x, y, z)) W)) :
    Calls Try.prog 146 #[.slice A n c, .func (.func g) #[] cap] w (RetIdx (l.any p) w) := by
  have e1 := h.lenEq
  have b1 := h.lenLe
  have HP := Lib.hid hp
  clear hp
  go_enter Try.func146, Try.ntmps146
  go_wp2
  go_loopw [8] (fun i wr => ∃ k : Nat, k ≤ n ∧ i = .int .i64 k ∧ (l.take k).any p = false ∧ Below w.heap.size w wr) (fun i _ => n - (intOf i).toNat)
  case atStart => exact ⟨0, Nat.zero_le _, rfl, rfl, Below.refl _ _⟩
  case round =>
    obtain ⟨k, hk, rfl, ht0, hb⟩ := hrel
    have ht := Lib.hid ht0
    clear ht0
    by_cases hlt : k < n
    · obtain ⟨b, o, x, y, z, rfl, _, _, hl0, _, _, _, hc1, hc2, hc3⟩ := (h.below hb hh).note_at hlt
      have hmem := Lib.hid (hl0 ▸ List.getElem_mem (l := l) (n := k) (by omega))
      have hok := Lib.hid (fun (hp : p (x, y, z) = false) => any_take_succ (p := p) ht.out (by omega) (by rw [hl0]; exact hp))
      have hno := Lib.hid (fun (hp : p (x, y, z) = true) => any_true (p := p) (l := l) (k := k) (by omega) (by rw [hl0]; exact hp))
      clear hl0
      go_wp2_with fail
      refine (HP.out _ x y z hmem.out hb).mono ?_
      rintro e w2 ⟨rfl, hb2⟩
      have hb3 := below_then hb hb2
      by_cases hpx : p (x, y, z) = true
      · have hs := Lib.hid (hno.out hpx)
        go_wp2_with fail
        go_ret
        exact ⟨_, rfl, by rw [hs.out]; simp, hb3⟩
      · have hpx : p (x, y, z) = false := by simpa using hpx
        have hs := Lib.hid (hok.out hpx)
        go_wp2_with fail
        go_roundw
        case rel => exact ⟨k + 1, by omega, by go_num, hs.out, hb3⟩
        case measure => simp [intOf]; omega
    · rw [List.take_of_length_le (by omega)] at ht
      go_wp2_with fail
      go_ret
      exact ⟨_, rfl, by rw [ht.out]; rfl, hb⟩

theorem containsFuncNote (g : FuncId) (cap : Array Value) (p : Note → Bool) (w : World) (lo hi n c : Nat) (A : Option Addr) (l : List Note) (h : Sl noteR w lo hi A n c l) (hh : hi ≤ w.heap.size)
    (eg : ∀ (args : Array Value) (w : World), (callFunc g args).run Try.prog w = .ok (.enter g args) w)
    (hp : ∀ (W : World) (x y z : Int), (x, y, z) ∈ l → Below w.heap.size w W → Calls Try.prog g (#[.agg #[.int .i64 x, .int .i64 y, .int .i64 z]] ++ cap) W (RetB (p (x, y, z)) W)) :
    Calls Try.prog 105 #[.slice A n c, .func (.func g) #[] cap] w (RetB (l.any p) w) := by
  have HP := Lib.hid hp
  have EG := Lib.hid eg
  have e1 := h.lenEq
  have b1 := h.lenLe
  clear hp eg
  go_enter Try.func105, Try.ntmps105
  go_wp2_with fail
  refine (idxFuncNote g cap p _ lo hi n c A l h hh EG.out HP.out).mono ?_
  rintro e w2 ⟨r, rfl, hr, hb⟩
  have hr := Lib.hid hr
  go_wp2_with fail
  go_ret
  exact RetB.mk (by first | exact hr.out | rfl) hb

theorem areNotes1 (w : World) (x y z : Int) : Calls Try.prog 106 #[.agg #[.int .i64 x, .int .i64 y, .int .i64 z]] w (RetB (!noteOk (x, y, z)) w) := by
  go_enter Try.func106, Try.ntmps106
  go_wp2_with (go_at_call 92; refine (implWithin _ _ _ _).mono ?_; rintro e w2 ⟨rfl, rfl⟩)
  all_goals
    go_ret
    exact RetB.mk (by simp_all [noteOk]) (by (repeat (first | exact Below.refl _ _ | assumption | refine below_alloc ?_ _ | refine Below.setCell ?_ (by first | exact Nat.le_refl _ | (simp; done) | (simp; omega)) _ | refine below_drewN ?_ _ | refine Below.drew ?_)))

theorem any_not_all {α : Type} (p : α → Bool) (l : List α) : (!(l.any fun x => !p x)) = l.all p := by
  induction l with
  | nil => rfl
  | cons x l ih => rw [List.any_cons, List.all_cons, Bool.not_or, ih, Bool.not_not]
theorem implAreNotes (w : World) (lo hi n c : Nat) (A : Option Addr) (l : List Note) (h : Sl noteR w lo hi A n c l) (hh : hi ≤ w.heap.size) :
    Calls Try.prog 65 #[.slice A n c] w (RetB (goodNotes l) w) := by
  have e1 := h.lenEq
  by_cases hn : n ≤ 3000
  · have hd : decide ((n : Int) ≤ 3000) = true := by simp; omega
    go_enter Try.func65, Try.ntmps65
    go_wp2_with fail
    refine (containsFuncNote 106 #[] (fun x => !noteOk x) _ lo hi n c A l h hh (fun _ _ => by kernel_rfl) (fun W x y z _ _ => areNotes1 W x y z)).mono ?_
    rintro e w2 ⟨rfl, hb⟩
    go_wp2_with fail
    go_ret
    exact RetB.mk (by rw [goodNotes, ← any_not_all, e1, decide_eq_true hn, Bool.and_true]) hb
  · have hd : decide ((n : Int) ≤ 3000) = false := by simp; omega
    go_enter Try.func65, Try.ntmps65
    go_wp2_with fail
    go_ret
    exact RetB.mk (by rw [goodNotes, e1, decide_eq_false hn, Bool.and_false]) (Below.refl _ _)

def sitesP (kind id : Int) (x : Note) : Bool := x.1 == kind && x.2.1 == id
def sites (kind id : Int) (l : List Note) : List Int := (l.filter (sitesP kind id)).map fun x => x.2.2
theorem sites_len (kind id : Int) (l : List Note) : (sites kind id l).length ≤ l.length := by simp [sites]; exact List.length_filter_le _ _
theorem sites_yes {kind id : Int} {l : List Note} {k : Nat} (hk : k < l.length) (hp : sitesP kind id l[k] = true) : sites kind id (l.take (k + 1)) = sites kind id (l.take k) ++ [l[k].2.2] := by
  unfold sites; rw [List.take_succ_eq_append_getElem hk, List.filter_append, List.map_append]; simp [List.filter_cons, hp]
theorem sites_no {kind id : Int} {l : List Note} {k : Nat} (hk : k < l.length) (hp : sitesP kind id l[k] = false) : sites kind id (l.take (k + 1)) = sites kind id (l.take k) := by
  unfold sites; rw [List.take_succ_eq_append_getElem hk, List.filter_append, List.map_append]; simp [List.filter_cons, hp]
theorem Sl.notes64 {w : World} {lo hi : Nat} {A : Option Addr} {n c : Nat} {l : List Note} (h : Sl noteR w lo hi A n c l) : ∀ x, x ∈ l → I64 x.1 ∧ I64 x.2.1 ∧ I64 x.2.2 := by
  intro x hx
  obtain ⟨k, hk, rfl⟩ := List.getElem_of_mem hx
  obtain ⟨_, _, a, b, d, _, _, _, e, i1, i2, i3, _⟩ := h.note_at (k := k) (by have := h.1; omega)
  rw [e]; exact ⟨i1, i2, i3⟩
theorem sites64 {kind id : Int} {l : List Note} (h : ∀ x, x ∈ l → I64 x.1 ∧ I64 x.2.1 ∧ I64 x.2.2) : ∀ x, x ∈ sites kind id l → I64 x := by
  intro x hx
  obtain ⟨y, hy, rfl⟩ := List.mem_map.1 hx
  exact (h y (List.mem_filter.1 hy).1).2.2

set_option maxRecDepth 100000 in
theorem implNoteSites (w : World) (lo hi n c : Nat) (A : Option Addr) (l : List Note) (kind id : Int) (h : Sl noteR w lo hi A n c l) (hh : hi ≤ w.heap.size) (hn : n ≤ 1048576) :
    Calls Try.prog 68 #[.slice A n c, .int .i64 kind, .int .i64 id] w (RetOwn intR 3 (sites kind id l) w) := by
  have e1 := h.lenEq
  obtain ⟨i0, hi0, hz0, hz1, hz2⟩ := info_parts Try.infoInt
  go_enter Try.func68, Try.ntmps68
  go_wp2
  go_loopw [7, 12] (fun v i wr => ∃ k : Nat, k ≤ n ∧ i = .int .i64 k ∧ wr.ownsRow w.heap.size 3 1 v (sites kind id (l.take k)).length ((sites kind id (l.take k)).map (Value.int .i64)) ∧ Below w.heap.size w wr) (fun _ i _ => n - (intOf i).toNat)
  case atStart => exact ⟨0, Nat.zero_le _, rfl, by simpa [sites] using World.ownsRow_nil _ _ _ _, Below.refl _ _⟩
  case round =>
    obtain ⟨k, hk, rfl, ho, hb⟩ := hrel
    by_cases hlt : k < n
    · obtain ⟨b, o, x, y, z, rfl, _, _, hl0, _, _, _, hc1, hc2, hc3⟩ := (h.below hb hh).note_at hlt
      by_cases hp : sitesP kind id (x, y, z) = true
      · have hs := Lib.hid (sites_yes (kind := kind) (id := id) (l := l) (k := k) (by omega) (by rw [hl0]; exact hp))
        rw [hl0] at hs
        obtain ⟨rfl, rfl⟩ : x = kind ∧ y = id := by simpa [sitesP] using hp
        have hsl := sites_len x y (l.take k)
        rw [List.length_take] at hsl
        have hbs := hb.size
        clear hl0 hp
        go_wp2_with (at_builtin; refine wpList_append_own _ rfl _ _ 25 rfl w.heap.size 3 i0 (.int .i64 0) 1 8 Try.underlying25 hi0 hz0 hz1 hz2 rfl (by decide) _ _ _ rfl ((ho.alloc _).alloc _) ⟨wr.heap.size + 1, 0, none⟩ 1 1 [.int .i64 z] rfl rfl (cell_new1 _ _ _ (by simp)) (by simp [Value.oneCell']) (by unfold maxLen; omega) (by omega) (by simp; omega) ?_)
        intro v' w2 hown hgr _
        have hb2 := below_own ho hgr (by (repeat (first | exact Below.refl _ _ | assumption | refine below_alloc ?_ _ | refine Below.setCell ?_ (by first | exact Nat.le_refl _ | (simp; done) | (simp; omega)) _ | refine below_drewN ?_ _ | refine Below.drew ?_)))
        have ho2 : w2.ownsRow w.heap.size 3 1 v' (sites x y (l.take (k + 1))).length ((sites x y (l.take (k + 1))).map (Value.int .i64)) := by
          rw [hs.out]; simpa using hown
        clear hown hgr ho
        go_wp2
        go_roundw
        case rel => exact ⟨k + 1, by omega, by go_num, ho2, hb2⟩
        case measure => simp [intOf]; omega
      · have hp : sitesP kind id (x, y, z) = false := by simpa using hp
        have hs := sites_no (kind := kind) (id := id) (l := l) (k := k) (by omega) (by rw [hl0]; exact hp)
        rw [← hs] at ho
        clear hs
        clear hl0
        by_cases h1 : x = kind
        · have h2 : (y == id) = false := by simp [sitesP, h1] at hp; simpa using hp
          have h1 : (x == kind) = true := by simpa using h1
          clear hp
          go_wp2
          go_roundw
          case rel => exact ⟨k + 1, by omega, by go_num, ho.alloc _, by (repeat (first | exact Below.refl _ _ | assumption | refine below_alloc ?_ _ | refine Below.setCell ?_ (by first | exact Nat.le_refl _ | (simp; done) | (simp; omega)) _ | refine below_drewN ?_ _ | refine Below.drew ?_))⟩
          case measure => simp [intOf]; omega
        · have h1 : (x == kind) = false := by simpa using h1
          clear hp
          go_wp2
          go_roundw
          case rel => exact ⟨k + 1, by omega, by go_num, ho.alloc _, by (repeat (first | exact Below.refl _ _ | assumption | refine below_alloc ?_ _ | refine Below.setCell ?_ (by first | exact Nat.le_refl _ | (simp; done) | (simp; omega)) _ | refine below_drewN ?_ _ | refine Below.drew ?_))⟩
          case measure => simp [intOf]; omega
    · rw [List.take_of_length_le (by omega)] at ho
      go_wp2
      go_ret
      exact RetOwn.ints ho (sites64 h.notes64) hb
set_option maxRecDepth 100000 in
theorem specL11Of (w : World) (lo hi n c : Nat) (A : Option Addr) (l : List Note) (kind id : Int) (h : Sl noteR w lo hi A n c l) (hh : hi ≤ w.heap.size) (hn : n ≤ 1048576) :
    Calls Try.prog 67 #[.slice A n c, .int .i64 id, .int .i64 kind] w (RetOwn intR 3 (sites kind id l) w) := by
  have e1 := h.lenEq
  obtain ⟨i0, hi0, hz0, hz1, hz2⟩ := info_parts Try.infoInt
  go_enter Try.func67, Try.ntmps67
  go_wp2
  go_loopw [7, 12] (fun v i wr => ∃ k : Nat, k ≤ n ∧ i = .int .i64 k ∧ wr.ownsRow w.heap.size 3 1 v (sites kind id (l.take k)).length ((sites kind id (l.take k)).map (Value.int .i64)) ∧ Below w.heap.size w wr) (fun _ i _ => n - (intOf i).toNat)
  case atStart => exact ⟨0, Nat.zero_le _, rfl, by simpa [sites] using World.ownsRow_nil _ _ _ _, Below.refl _ _⟩
  case round =>
    obtain ⟨k, hk, rfl, ho, hb⟩ := hrel
    by_cases hlt : k < n
    · obtain ⟨b, o, x, y, z, rfl, _, _, hl0, _, _, _, hc1, hc2, hc3⟩ := (h.below hb hh).note_at hlt
      by_cases hp : sitesP kind id (x, y, z) = true
      · have hs := Lib.hid (sites_yes (kind := kind) (id := id) (l := l) (k := k) (by omega) (by rw [hl0]; exact hp))
        rw [hl0] at hs
        obtain ⟨rfl, rfl⟩ : x = kind ∧ y = id := by simpa [sitesP] using hp
        have hsl := sites_len x y (l.take k)
        rw [List.length_take] at hsl
        have hbs := hb.size
        clear hl0 hp
        go_wp2_with (at_builtin; refine wpList_append_own _ rfl _ _ 25 rfl w.heap.size 3 i0 (.int .i64 0) 1 8 Try.underlying25 hi0 hz0 hz1 hz2 rfl (by decide) _ _ _ rfl ((ho.alloc _).alloc _) ⟨wr.heap.size + 1, 0, none⟩ 1 1 [.int .i64 z] rfl rfl (cell_new1 _ _ _ (by simp)) (by simp [Value.oneCell']) (by unfold maxLen; omega) (by omega) (by simp; omega) ?_)
        intro v' w2 hown hgr _
        have hb2 := below_own ho hgr (by (repeat (first | exact Below.refl _ _ | assumption | refine below_alloc ?_ _ | refine Below.setCell ?_ (by first | exact Nat.le_refl _ | (simp; done) | (simp; omega)) _ | refine below_drewN ?_ _ | refine Below.drew ?_)))
        have ho2 : w2.ownsRow w.heap.size 3 1 v' (sites x y (l.take (k + 1))).length ((sites x y (l.take (k + 1))).map (Value.int .i64)) := by
          rw [hs.out]; simpa using hown
        clear hown hgr ho
        go_wp2
        go_roundw
        case rel => exact ⟨k + 1, by omega, by go_num, ho2, hb2⟩
        case measure => simp [intOf]; omega
      · have hp : sitesP kind id (x, y, z) = false := by simpa using hp
        have hs := sites_no (kind := kind) (id := id) (l := l) (k := k) (by omega) (by rw [hl0]; exact hp)
        rw [← hs] at ho
        clear hs
        clear hl0
        by_cases h1 : y = id
        · have h2 : (x == kind) = false := by simp [sitesP, h1] at hp; simpa using hp
          have h1 : (y == id) = true := by simpa using h1
          clear hp
          go_wp2
          go_roundw
          case rel => exact ⟨k + 1, by omega, by go_num, ho.alloc _, by (repeat (first | exact Below.refl _ _ | assumption | refine below_alloc ?_ _ | refine Below.setCell ?_ (by first | exact Nat.le_refl _ | (simp; done) | (simp; omega)) _ | refine below_drewN ?_ _ | refine Below.drew ?_))⟩
          case measure => simp [intOf]; omega
        · have h1 : (y == id) = false := by simpa using h1
          clear hp
          go_wp2
          go_roundw
          case rel => exact ⟨k + 1, by omega, by go_num, ho.alloc _, by (repeat (first | exact Below.refl _ _ | assumption | refine below_alloc ?_ _ | refine Below.setCell ?_ (by first | exact Nat.le_refl _ | (simp; done) | (simp; omega)) _ | refine below_drewN ?_ _ | refine Below.drew ?_))⟩
          case measure => simp [intOf]; omega
    · rw [List.take_of_length_le (by omega)] at ho
      go_wp2
      go_ret
      exact RetOwn.ints ho (sites64 h.notes64) hb

def sitesRes (kind id : Int) (l : List Note) : List Int := if goodNotes l = true then sites kind id l else []

theorem implPutsOf (w : World) (lo hi n c : Nat) (A : Option Addr) (l : List Note) (id : Int) (h : Sl noteR w lo hi A n c l) (hh : hi ≤ w.heap.size) (hn : n ≤ 1048576) :
    Calls Try.prog 31 #[.slice A n c, .int .i64 id] w (RetOwnB intR 3 (sitesRes 1 id l) (goodNotes l) w) := by
  by_cases hg : goodNotes l = true
  · have hr := Lib.hid (show sitesRes 1 id l = sites 1 id l from if_pos hg)
    go_enter Try.func31, Try.ntmps31
    go_wp2_with fail
    refine (implAreNotes _ lo hi n c A l h hh).mono ?_
    rintro e w2 ⟨rfl, hb⟩
    have hg' := Lib.hid hg
    go_wp2_with fail
    refine (implNoteSites _ lo hi n c A l 1 id (h.below hb hh) (by have := hb.size; omega) hn).mono ?_
    rintro e w3 ⟨F, A', n', c', rfl, ho, hF, hb3⟩
    go_wp2_with fail
    go_ret2
    rw [← hr.out] at ho
    exact RetOwnB.mk ho (fun k hk => by have := hF k hk; have := hb.size; omega) (by first | rfl | exact hg'.out.symm) (below_then hb hb3)
  · have hg : goodNotes l = false := by simpa using hg
    have hr := Lib.hid (show sitesRes 1 id l = [] from if_neg (by rw [hg]; simp))
    go_enter Try.func31, Try.ntmps31
    go_wp2_with fail
    refine (implAreNotes _ lo hi n c A l h hh).mono ?_
    rintro e w2 ⟨rfl, hb⟩
    have hg' := Lib.hid hg
    go_wp2_with fail
    go_ret2
    exact RetOwnB.nil_ hr.out (by first | rfl | exact hg'.out.symm) hb

theorem implStartsOf (w : World) (lo hi n c : Nat) (A : Option Addr) (l : List Note) (id : Int) (h : Sl noteR w lo hi A n c l) (hh : hi ≤ w.heap.size) (hn : n ≤ 1048576) :
    Calls Try.prog 33 #[.slice A n c, .int .i64 id] w (RetOwnB intR 3 (sitesRes 2 id l) (goodNotes l) w) := by
  by_cases hg : goodNotes l = true
  · have hr := Lib.hid (show sitesRes 2 id l = sites 2 id l from if_pos hg)
    go_enter Try.func33, Try.ntmps33
    go_wp2_with fail
    refine (implAreNotes _ lo hi n c A l h hh).mono ?_
    rintro e w2 ⟨rfl, hb⟩
    have hg' := Lib.hid hg
    go_wp2_with fail
    refine (implNoteSites _ lo hi n c A l 2 id (h.below hb hh) (by have := hb.size; omega) hn).mono ?_
    rintro e w3 ⟨F, A', n', c', rfl, ho, hF, hb3⟩
    go_wp2_with fail
    go_ret2
    rw [← hr.out] at ho
    exact RetOwnB.mk ho (fun k hk => by have := hF k hk; have := hb.size; omega) (by first | rfl | exact hg'.out.symm) (below_then hb hb3)
  · have hg : goodNotes l = false := by simpa using hg
    have hr := Lib.hid (show sitesRes 2 id l = [] from if_neg (by rw [hg]; simp))
    go_enter Try.func33, Try.ntmps33
    go_wp2_with fail
    refine (implAreNotes _ lo hi n c A l h hh).mono ?_
    rintro e w2 ⟨rfl, hb⟩
    have hg' := Lib.hid hg
    go_wp2_with fail
    go_ret2
    exact RetOwnB.nil_ hr.out (by first | rfl | exact hg'.out.symm) hb

theorem specPutsOf (w : World) (lo hi n c : Nat) (A : Option Addr) (l : List Note) (id : Int) (h : Sl noteR w lo hi A n c l) (hh : hi ≤ w.heap.size) (hn : n ≤ 1048576) :
    Calls Try.prog 30 #[.slice A n c, .int .i64 id] w (RetOwnB intR 3 (sitesRes 1 id l) (goodNotes l) w) := by
  by_cases hg : goodNotes l = true
  · have hr := Lib.hid (show sitesRes 1 id l = sites 1 id l from if_pos hg)
    go_enter Try.func30, Try.ntmps30
    go_wp2_with fail
    refine (specL11Good _ lo hi n c A l h hh).mono ?_
    rintro e w2 ⟨rfl, hb⟩
    have hg' := Lib.hid hg
    go_wp2_with fail
    refine (specL11Of _ lo hi n c A l 1 id (h.below hb hh) (by have := hb.size; omega) hn).mono ?_
    rintro e w3 ⟨F, A', n', c', rfl, ho, hF, hb3⟩
    go_wp2_with fail
    go_ret2
    rw [← hr.out] at ho
    exact RetOwnB.mk ho (fun k hk => by have := hF k hk; have := hb.size; omega) (by first | rfl | exact hg'.out.symm) (below_then hb hb3)
  · have hg : goodNotes l = false := by simpa using hg
    have hr := Lib.hid (show sitesRes 1 id l = [] from if_neg (by rw [hg]; simp))
    go_enter Try.func30, Try.ntmps30
    go_wp2_with fail
    refine (specL11Good _ lo hi n c A l h hh).mono ?_
    rintro e w2 ⟨rfl, hb⟩
    have hg' := Lib.hid hg
    go_wp2_with fail
    go_ret2
    exact RetOwnB.nil_ hr.out (by first | rfl | exact hg'.out.symm) hb

theorem specStartsOf (w : World) (lo hi n c : Nat) (A : Option Addr) (l : List Note) (id : Int) (h : Sl noteR w lo hi A n c l) (hh : hi ≤ w.heap.size) (hn : n ≤ 1048576) :
    Calls Try.prog 32 #[.slice A n c, .int .i64 id] w (RetOwnB intR 3 (sitesRes 2 id l) (goodNotes l) w) := by
  by_cases hg : goodNotes l = true
  · have hr := Lib.hid (show sitesRes 2 id l = sites 2 id l from if_pos hg)
    go_enter Try.func32, Try.ntmps32
    go_wp2_with fail
    refine (specL11Good _ lo hi n c A l h hh).mono ?_
    rintro e w2 ⟨rfl, hb⟩
    have hg' := Lib.hid hg
    go_wp2_with fail
    refine (specL11Of _ lo hi n c A l 2 id (h.below hb hh) (by have := hb.size; omega) hn).mono ?_
    rintro e w3 ⟨F, A', n', c', rfl, ho, hF, hb3⟩
    go_wp2_with fail
    go_ret2
    rw [← hr.out] at ho
    exact RetOwnB.mk ho (fun k hk => by have := hF k hk; have := hb.size; omega) (by first | rfl | exact hg'.out.symm) (below_then hb hb3)
  · have hg : goodNotes l = false := by simpa using hg
    have hr := Lib.hid (show sitesRes 2 id l = [] from if_neg (by rw [hg]; simp))
    go_enter Try.func32, Try.ntmps32
    go_wp2_with fail
    refine (specL11Good _ lo hi n c A l h hh).mono ?_
    rintro e w2 ⟨rfl, hb⟩
    have hg' := Lib.hid hg
    go_wp2_with fail
    go_ret2
    exact RetOwnB.nil_ hr.out (by first | rfl | exact hg'.out.symm) hb

def endsF (l : List Note) : List Int := (l.filter fun x => x.1 == 3).map fun x => x.2.1
def endsRes (l : List Note) : List Int := if goodNotes l = true then endsF l else []
theorem ends_len (l : List Note) : (endsF l).length ≤ l.length := by simp [endsF]; exact List.length_filter_le _ _
theorem ends_yes {l : List Note} {k : Nat} (hk : k < l.length) (hp : l[k].1 = 3) : endsF (l.take (k + 1)) = endsF (l.take k) ++ [l[k].2.1] := by
  unfold endsF; rw [List.take_succ_eq_append_getElem hk, List.filter_append, List.map_append]; simp [List.filter_cons, hp]
theorem ends_no {l : List Note} {k : Nat} (hk : k < l.length) (hp : ¬ l[k].1 = 3) : endsF (l.take (k + 1)) = endsF (l.take k) := by
  unfold endsF; rw [List.take_succ_eq_append_getElem hk, List.filter_append, List.map_append]; simp [List.filter_cons, hp]
theorem ends64 {l : List Note} (h : ∀ x, x ∈ l → I64 x.1 ∧ I64 x.2.1 ∧ I64 x.2.2) : ∀ x, x ∈ endsRes l → I64 x := by
  intro x hx
  unfold endsRes at hx
  split at hx
  · obtain ⟨y, hy, rfl⟩ := List.mem_map.1 hx
    exact (h y (List.mem_filter.1 hy).1).2.1
  · simp at hx

set_option maxRecDepth 100000 in
theorem implEndsIn (w : World) (lo hi n c : Nat) (A : Option Addr) (l : List Note) (h : Sl noteR w lo hi A n c l) (hh : hi ≤ w.heap.size) (hn : n ≤ 1048576) :
    Calls Try.prog 24 #[.slice A n c] w (RetOwnB intR 3 (endsRes l) (goodNotes l) w) := by
  by_cases hg : goodNotes l = true
  · have hr := Lib.hid (show endsRes l = endsF l from if_pos hg)
    have e1 := h.lenEq
    obtain ⟨i0, hi0, hz0, hz1, hz2⟩ := info_parts Try.infoInt
    go_enter Try.func24, Try.ntmps24
    go_wp2_with fail
    refine (implAreNotes _ lo hi n c A l h hh).mono ?_
    rintro e w2 ⟨rfl, hb2⟩
    go_wp2_with fail
    have hgH := Lib.hid hg
    clear hg
    go_loopw [4, 12] (fun v i wr => ∃ k : Nat, k ≤ n ∧ i = .int .i64 k ∧ wr.ownsRow w.heap.size 3 1 v (endsF (l.take k)).length ((endsF (l.take k)).map (Value.int .i64)) ∧ Below w.heap.size w wr) (fun _ i _ => n - (intOf i).toNat)
    case atStart => exact ⟨0, Nat.zero_le _, rfl, by simpa [endsF] using World.ownsRow_nil _ _ _ _, hb2⟩
    case round =>
      obtain ⟨k, hk, rfl, ho, hb⟩ := hrel
      by_cases hlt : k < n
      · obtain ⟨b, o, x, y, z, rfl, _, _, hl0, _, _, _, hc1, hc2, hc3⟩ := (h.below hb hh).note_at hlt
        by_cases hp : x = 3
        · subst hp
          have hs := Lib.hid (ends_yes (l := l) (k := k) (by omega) (by rw [hl0]))
          rw [hl0] at hs
          have hsl := ends_len (l.take k)
          rw [List.length_take] at hsl
          have hbs := hb.size
          clear hl0
          go_wp2_with (at_builtin; refine wpList_append_own _ rfl _ _ 25 rfl w.heap.size 3 i0 (.int .i64 0) 1 8 Try.underlying25 hi0 hz0 hz1 hz2 rfl (by decide) _ _ _ rfl ((ho.alloc _).alloc _) ⟨wr.heap.size + 1, 0, none⟩ 1 1 [.int .i64 y] rfl rfl (cell_new1 _ _ _ (by simp)) (by simp [Value.oneCell']) (by unfold maxLen; omega) (by omega) (by simp; omega) ?_)
          intro v' w2 hown hgr _
          have hb2 := below_own ho hgr (by (repeat (first | exact Below.refl _ _ | assumption | refine below_alloc ?_ _ | refine Below.setCell ?_ (by first | exact Nat.le_refl _ | (simp; done) | (simp; omega)) _ | refine below_drewN ?_ _ | refine Below.drew ?_)))
          have ho2 : w2.ownsRow w.heap.size 3 1 v' (endsF (l.take (k + 1))).length ((endsF (l.take (k + 1))).map (Value.int .i64)) := by
            rw [hs.out]; simpa using hown
          clear hown hgr ho
          go_wp2
          go_roundw
          case rel => exact ⟨k + 1, by omega, by go_num, ho2, hb2⟩
          case measure => simp [intOf]; omega
        · have hs := ends_no (l := l) (k := k) (by omega) (by rw [hl0]; exact hp)
          rw [← hs] at ho
          clear hs
          clear hl0
          have h1 : (x == 3) = false := by simpa using hp
          clear hp
          go_wp2
          go_roundw
          case rel => exact ⟨k + 1, by omega, by go_num, ho.alloc _, by (repeat (first | exact Below.refl _ _ | assumption | refine below_alloc ?_ _ | refine Below.setCell ?_ (by first | exact Nat.le_refl _ | (simp; done) | (simp; omega)) _ | refine below_drewN ?_ _ | refine Below.drew ?_))⟩
          case measure => simp [intOf]; omega
      · rw [List.take_of_length_le (by omega), ← hr.out] at ho
        go_wp2
        go_ret2
        exact RetOwnB.ints ho (ends64 h.notes64) (by first | rfl | exact hgH.out.symm) hb
  · have hg : goodNotes l = false := by simpa using hg
    have hr := Lib.hid (show endsRes l = [] from if_neg (by rw [hg]; simp))
    go_enter Try.func24, Try.ntmps24
    go_wp2_with fail
    refine (implAreNotes _ lo hi n c A l h hh).mono ?_
    rintro e w2 ⟨rfl, hb⟩
    have hg' := Lib.hid hg
    go_wp2_with fail
    go_ret2
    exact RetOwnB.nil_ hr.out (by first | rfl | exact hg'.out.symm) hb

set_option maxRecDepth 100000 in
theorem specEndsIn (w : World) (lo hi n c : Nat) (A : Option Addr) (l : List Note) (h : Sl noteR w lo hi A n c l) (hh : hi ≤ w.heap.size) (hn : n ≤ 1048576) :
    Calls Try.prog 22 #[.slice A n c] w (RetOwnB intR 3 (endsRes l) (goodNotes l) w) := by
  by_cases hg : goodNotes l = true
  · have hr := Lib.hid (show endsRes l = endsF l from if_pos hg)
    have e1 := h.lenEq
    obtain ⟨i0, hi0, hz0, hz1, hz2⟩ := info_parts Try.infoInt
    go_enter Try.func22, Try.ntmps22
    go_wp2_with fail
    refine (specL11Good _ lo hi n c A l h hh).mono ?_
    rintro e w2 ⟨rfl, hb2⟩
    go_wp2_with fail
    have hgH := Lib.hid hg
    clear hg
    go_loopw [4, 12] (fun v i wr => ∃ k : Nat, k ≤ n ∧ i = .int .i64 k ∧ wr.ownsRow w.heap.size 3 1 v (endsF (l.take k)).length ((endsF (l.take k)).map (Value.int .i64)) ∧ Below w.heap.size w wr) (fun _ i _ => n - (intOf i).toNat)
    case atStart => exact ⟨0, Nat.zero_le _, rfl, by simpa [endsF] using World.ownsRow_nil _ _ _ _, hb2⟩
    case round =>
      obtain ⟨k, hk, rfl, ho, hb⟩ := hrel
      by_cases hlt : k < n
      · obtain ⟨b, o, x, y, z, rfl, _, _, hl0, _, _, _, hc1, hc2, hc3⟩ := (h.below hb hh).note_at hlt
        by_cases hp : x = 3
        · subst hp
          have hs := Lib.hid (ends_yes (l := l) (k := k) (by omega) (by rw [hl0]))
          rw [hl0] at hs
          have hsl := ends_len (l.take k)
          rw [List.length_take] at hsl
          have hbs := hb.size
          clear hl0
          go_wp2_with (at_builtin; refine wpList_append_own _ rfl _ _ 25 rfl w.heap.size 3 i0 (.int .i64 0) 1 8 Try.underlying25 hi0 hz0 hz1 hz2 rfl (by decide) _ _ _ rfl ((ho.alloc _).alloc _) ⟨wr.heap.size + 1, 0, none⟩ 1 1 [.int .i64 y] rfl rfl (cell_new1 _ _ _ (by simp)) (by simp [Value.oneCell']) (by unfold maxLen; omega) (by omega) (by simp; omega) ?_)
          intro v' w2 hown hgr _
          have hb2 := below_own ho hgr (by (repeat (first | exact Below.refl _ _ | assumption | refine below_alloc ?_ _ | refine Below.setCell ?_ (by first | exact Nat.le_refl _ | (simp; done) | (simp; omega)) _ | refine below_drewN ?_ _ | refine Below.drew ?_)))
          have ho2 : w2.ownsRow w.heap.size 3 1 v' (endsF (l.take (k + 1))).length ((endsF (l.take (k + 1))).map (Value.int .i64)) := by
            rw [hs.out]; simpa using hown
          clear hown hgr ho
          go_wp2
          go_roundw
          case rel => exact ⟨k + 1, by omega, by go_num, ho2, hb2⟩
          case measure => simp [intOf]; omega
        · have hs := ends_no (l := l) (k := k) (by omega) (by rw [hl0]; exact hp)
          rw [← hs] at ho
          clear hs
          clear hl0
          have h1 : (x == 3) = false := by simpa using hp
          clear hp
          go_wp2
          go_roundw
          case rel => exact ⟨k + 1, by omega, by go_num, ho.alloc _, by (repeat (first | exact Below.refl _ _ | assumption | refine below_alloc ?_ _ | refine Below.setCell ?_ (by first | exact Nat.le_refl _ | (simp; done) | (simp; omega)) _ | refine below_drewN ?_ _ | refine Below.drew ?_))⟩
          case measure => simp [intOf]; omega
      · rw [List.take_of_length_le (by omega), ← hr.out] at ho
        go_wp2
        go_ret2
        exact RetOwnB.ints ho (ends64 h.notes64) (by first | rfl | exact hgH.out.symm) hb
  · have hg : goodNotes l = false := by simpa using hg
    have hr := Lib.hid (show endsRes l = [] from if_neg (by rw [hg]; simp))
    go_enter Try.func22, Try.ntmps22
    go_wp2_with fail
    refine (specL11Good _ lo hi n c A l h hh).mono ?_
    rintro e w2 ⟨rfl, hb⟩
    have hg' := Lib.hid hg
    go_wp2_with fail
    go_ret2
    exact RetOwnB.nil_ hr.out (by first | rfl | exact hg'.out.symm) hb
theorem endsRes_len (l : List Note) : (endsRes l).length ≤ l.length := by
  unfold endsRes; split
  · exact ends_len l
  · simp
theorem sitesRes_len (kind id : Int) (l : List Note) : (sitesRes kind id l).length ≤ l.length := by
  unfold sitesRes; split
  · exact sites_len kind id l
  · simp
end Go.Proofs.Ytikffchdembbjaa
