/- slices.Clone of lists of instructions, of rows. Walks. -/
import Derived.Test.YtmnkgcjbckamnaaGreatCloneT
import Derived.Test.YtmnkgcjbckamnaaGreatFlatR
set_option linter.unusedVariables false
set_option linter.unusedSimpArgs false
set_option maxRecDepth 100000
namespace Go.Proofs.YtmnkgcjbckamnaaGreat
open Go.RowKit
theorem cloneInsR (w : World) (lo hi : Nat) (A : Option Addr) (n c : Nat) (l : List Ins) (h : Sl InsR w lo hi A n c l) (hh : hi ≤ w.heap.size) (hn : n ≤ 1048576) :
    Calls Tryz.prog 193 #[.slice A n c] w (RetIns l w) := by
  have hs := fun w : World => Lib.run_eql_slice_nil (P := Tryz.prog) w 27 119 A n c 0 0 Tryz.underlying27
  cases A with
  | none =>
    have hl := sl_nil_addr h
    go_enter Tryz.func193, Tryz.ntmps193
    go_wp2_with fail
    go_ret
    subst hl
    exact ⟨_, rfl, by unfold InsRow; exact World.ownsRow_nil _ _ _ _, by (repeat (first | with_reducible exact Below.refl _ _ | with_reducible assumption | with_reducible refine below_alloc ?_ _ | ((with_reducible refine Below.setCell ?_ ?_ _); rotate_left; (· first | exact Nat.le_refl _ | (simp; done) | (simp; omega))) | with_reducible refine below_drewN ?_ _ | with_reducible refine Below.drew ?_ | with_reducible refine below_then ?_ (by with_reducible assumption)))⟩
  | some ad =>
    obtain ⟨inf, hif, hz0, hz1, hz2⟩ := info_parts Tryz.infoIns2
    have HL := Lib.hid h.lenEq
    have hs2 := src_ins ((h.more (Nat.zero_le lo) hh).below (show Below w.heap.size w (w.alloc (.cells #[] 119)) by (repeat (first | with_reducible exact Below.refl _ _ | with_reducible assumption | with_reducible refine below_alloc ?_ _ | ((with_reducible refine Below.setCell ?_ ?_ _); rotate_left; (· first | exact Nat.le_refl _ | (simp; done) | (simp; omega))) | with_reducible refine below_drewN ?_ _ | with_reducible refine Below.drew ?_ | with_reducible refine below_then ?_ (by with_reducible assumption)))) (Nat.le_refl _))
    go_enter Tryz.func193, Tryz.ntmps193
    go_wp2_with (at_builtin; refine wpList_append_src _ rfl _ _ 27 rfl w.heap.size 119 inf (.agg #[.int .i64 0, .int .i64 0]) 2 16 Tryz.underlying27 hif hz0 hz1 hz2 rfl (by decide) (.slice (some ⟨w.heap.size, 0, none⟩) 0 0) 0 [] rfl (World.ownsRow_made w #[] 0 (Nat.le_refl _) (by decide) (by simp)) (some ad) n c (encL insV l) rfl hs2 (encL_one' insV_one) (by unfold maxLen; omega) (by omega) (by simp) ?_)
    intro v' w' hown hgr hat
    rw [← HL.out] at hown
    have hb : Below w.heap.size w w' := (show Below w.heap.size w (w.alloc (.cells #[] 119)) by (repeat (first | with_reducible exact Below.refl _ _ | with_reducible assumption | with_reducible refine below_alloc ?_ _ | ((with_reducible refine Below.setCell ?_ ?_ _); rotate_left; (· first | exact Nat.le_refl _ | (simp; done) | (simp; omega))) | with_reducible refine below_drewN ?_ _ | with_reducible refine Below.drew ?_ | with_reducible refine below_then ?_ (by with_reducible assumption)))).grown hgr (by simp) (fun g hg => by simp [Value.ownBlock] at hg; omega)
    clear hgr hat
    go_wp2_with fail
    go_ret
    exact ⟨v', rfl, hown, hb⟩
theorem cloneIns (w : World) (lo hi : Nat) (A : Option Addr) (n c : Nat) (l : List Ins) (h : Sl InsR w lo hi A n c l) (hh : hi ≤ w.heap.size) (hn : n ≤ 1048576) (hok : ∀ t, t ∈ l → okIns t) :
    Calls Tryz.prog 193 #[.slice A n c] w (RetOwn InsR 119 l w) :=
  (cloneInsR w lo hi A n c l h hh hn).mono fun _ _ h => by obtain ⟨v, rfl, hr, hb⟩ := h; exact RetOwn.insRow hr hok hb
theorem Tryz.infoRow2 : (Tryz.prog.info? 97).map (fun i => (i.zero, i.size, i.bytes)) = some (some (.agg #[.int .i64 0, .int .i64 0, .int .i64 0]), 3, 24) := by kernel_rfl
def RowsRow (w : World) (base : Nat) (v : Value) (l : List Row) : Prop := w.ownsRow base 97 3 v l.length (encL rowV l)
def RetRows (l : List Row) (w : World) (e : Ending) (w' : World) : Prop := ∃ v, e = .returned v ∧ RowsRow w' w.heap.size v l ∧ Below w.heap.size w w'
def okRow (x : Row) : Prop := I64 x.1 ∧ I64 x.2.1 ∧ I64 x.2.2
theorem src_rows {w : World} {lo hi : Nat} {A : Option Addr} {n c : Nat} {l : List Row} (h : Sl RowR w lo hi A n c l) : Src w 3 A n (encL rowV l) :=
  src_flat h (fun cs x hr => by obtain ⟨_, _, _, e, rfl, _⟩ := Row_rel hr; exact e) rowV_len (by decide)
theorem cloneRowsR (w : World) (lo hi : Nat) (A : Option Addr) (n c : Nat) (l : List Row) (h : Sl RowR w lo hi A n c l) (hh : hi ≤ w.heap.size) (hn : n ≤ 1048576) :
    Calls Tryz.prog 194 #[.slice A n c] w (RetRows l w) := by
  have hs := fun w : World => Lib.run_eql_slice_nil (P := Tryz.prog) w 28 97 A n c 0 0 Tryz.underlying28
  cases A with
  | none =>
    have hl := sl_nil_addr h
    go_enter Tryz.func194, Tryz.ntmps194
    go_wp2_with fail
    go_ret
    subst hl
    exact ⟨_, rfl, by unfold RowsRow; exact World.ownsRow_nil _ _ _ _, by (repeat (first | with_reducible exact Below.refl _ _ | with_reducible assumption | with_reducible refine below_alloc ?_ _ | ((with_reducible refine Below.setCell ?_ ?_ _); rotate_left; (· first | exact Nat.le_refl _ | (simp; done) | (simp; omega))) | with_reducible refine below_drewN ?_ _ | with_reducible refine Below.drew ?_ | with_reducible refine below_then ?_ (by with_reducible assumption)))⟩
  | some ad =>
    obtain ⟨inf, hif, hz0, hz1, hz2⟩ := info_parts Tryz.infoRow2
    have HL := Lib.hid h.lenEq
    have hs2 := src_rows ((h.more (Nat.zero_le lo) hh).below (show Below w.heap.size w (w.alloc (.cells #[] 97)) by (repeat (first | with_reducible exact Below.refl _ _ | with_reducible assumption | with_reducible refine below_alloc ?_ _ | ((with_reducible refine Below.setCell ?_ ?_ _); rotate_left; (· first | exact Nat.le_refl _ | (simp; done) | (simp; omega))) | with_reducible refine below_drewN ?_ _ | with_reducible refine Below.drew ?_ | with_reducible refine below_then ?_ (by with_reducible assumption)))) (Nat.le_refl _))
    go_enter Tryz.func194, Tryz.ntmps194
    go_wp2_with (at_builtin; refine wpList_append_src _ rfl _ _ 28 rfl w.heap.size 97 inf (.agg #[.int .i64 0, .int .i64 0, .int .i64 0]) 3 24 Tryz.underlying28 hif hz0 hz1 hz2 rfl (by decide) (.slice (some ⟨w.heap.size, 0, none⟩) 0 0) 0 [] rfl (World.ownsRow_made w #[] 0 (Nat.le_refl _) (by decide) (by simp)) (some ad) n c (encL rowV l) rfl hs2 (encL_one' rowV_one) (by unfold maxLen; omega) (by omega) (by simp) ?_)
    intro v' w' hown hgr hat
    rw [← HL.out] at hown
    have hb : Below w.heap.size w w' := (show Below w.heap.size w (w.alloc (.cells #[] 97)) by (repeat (first | with_reducible exact Below.refl _ _ | with_reducible assumption | with_reducible refine below_alloc ?_ _ | ((with_reducible refine Below.setCell ?_ ?_ _); rotate_left; (· first | exact Nat.le_refl _ | (simp; done) | (simp; omega))) | with_reducible refine below_drewN ?_ _ | with_reducible refine Below.drew ?_ | with_reducible refine below_then ?_ (by with_reducible assumption)))).grown hgr (by simp) (fun g hg => by simp [Value.ownBlock] at hg; omega)
    clear hgr hat
    go_wp2_with fail
    go_ret
    exact ⟨v', rfl, hown, hb⟩
theorem cloneRows (w : World) (lo hi : Nat) (A : Option Addr) (n c : Nat) (l : List Row) (h : Sl RowR w lo hi A n c l) (hh : hi ≤ w.heap.size) (hn : n ≤ 1048576) (hok : ∀ t, t ∈ l → okRow t) :
    Calls Tryz.prog 194 #[.slice A n c] w (RetOwn RowR 97 l w) :=
  (cloneRowsR w lo hi A n c l h hh hn).mono fun _ _ h => by obtain ⟨v, rfl, hr, hb⟩ := h; exact RetOwn.flat hr (fun x hx => row_own (hok x hx)) hb
theorem sl_ins_ok {w : World} {lo hi n c : Nat} {A : Option Addr} {l : List Ins} (h : Sl InsR w lo hi A n c l) : ∀ t, t ∈ l → okIns t := by
  intro t ht
  obtain ⟨i, hi, rfl⟩ := List.getElem_of_mem ht
  obtain ⟨_, _, x0, x1, _, _, _, e, i0, i1, _⟩ := Ins_at h (k := i) (by rw [← h.lenEq]; exact hi)
  rw [e]; exact ⟨i0, i1⟩
theorem sl_rows_ok {w : World} {lo hi n c : Nat} {A : Option Addr} {l : List Row} (h : Sl RowR w lo hi A n c l) : ∀ t, t ∈ l → I64 t.1 ∧ I64 t.2.1 ∧ I64 t.2.2 := by
  intro t ht
  obtain ⟨i, hi, rfl⟩ := List.getElem_of_mem ht
  obtain ⟨_, _, x0, x1, x2, _, _, _, e, i0, i1, i2, _⟩ := Row_at h (k := i) (by rw [← h.lenEq]; exact hi)
  rw [e]; exact ⟨i0, i1, i2⟩
end Go.Proofs.YtmnkgcjbckamnaaGreat
