/- slices.Clone of lists of tokens, of ints. Walks. -/
import Derived.Test.YtmnkgcjbckamnaaGreatSlc
import Derived.Test.YtmnkgcjbckamnaaGreatFlatK
import Derived.WalkSpells
set_option linter.unusedVariables false
set_option linter.unusedSimpArgs false
set_option maxRecDepth 100000
namespace Go.Proofs.YtmnkgcjbckamnaaGreat
open Go.RowKit
theorem sl_nil_addr {α : Type} {R : Rp α} {w : World} {lo hi n c : Nat} {l : List α} (h : Sl R w lo hi none n c l) : l = [] := by
  rcases Nat.eq_zero_or_pos n with h0 | h0
  · exact List.eq_nil_of_length_eq_zero (by rw [h.lenEq, h0])
  · obtain ⟨_, _, _, h1, _⟩ := h.at_ h0; cases h1
theorem cloneInts (w : World) (lo hi : Nat) (A : Option Addr) (n c : Nat) (l : List Int) (h : Sl intR w lo hi A n c l) (hh : hi ≤ w.heap.size) (hn : n ≤ 1048576) (hok : ∀ t, t ∈ l → I64 t) :
    Calls Tryz.prog 95 #[.slice A n c] w (RetOwn intR 3 l w) := by
  have hs := fun w : World => Lib.run_eql_slice_nil (P := Tryz.prog) w 26 3 A n c 0 0 Tryz.underlying26
  cases A with
  | none =>
    have hl := sl_nil_addr h
    go_enter Tryz.func95, Tryz.ntmps95
    go_wp2_with fail
    go_ret
    subst hl
    exact RetOwn.mk rfl (OwnSl.nil_ _ _ _) (by simp) (by (repeat (first | with_reducible exact Below.refl _ _ | with_reducible assumption | with_reducible refine below_alloc ?_ _ | ((with_reducible refine Below.setCell ?_ ?_ _); rotate_left; (· first | exact Nat.le_refl _ | (simp; done) | (simp; omega))) | with_reducible refine below_drewN ?_ _ | with_reducible refine Below.drew ?_ | with_reducible refine below_then ?_ (by with_reducible assumption))))
  | some ad =>
    obtain ⟨inf, hif, hz0, hz1, hz2⟩ := info_parts Tryz.infoInt
    have HL := Lib.hid h.lenEq
    have HO := Lib.hid hok
    clear hok
    have hs2 := src_ints ((h.more (Nat.zero_le lo) hh).below (show Below w.heap.size w (w.alloc (.cells #[] 3)) by (repeat (first | with_reducible exact Below.refl _ _ | with_reducible assumption | with_reducible refine below_alloc ?_ _ | ((with_reducible refine Below.setCell ?_ ?_ _); rotate_left; (· first | exact Nat.le_refl _ | (simp; done) | (simp; omega))) | with_reducible refine below_drewN ?_ _ | with_reducible refine Below.drew ?_ | with_reducible refine below_then ?_ (by with_reducible assumption)))) (Nat.le_refl _))
    go_enter Tryz.func95, Tryz.ntmps95
    go_wp2_with (at_builtin; refine wpList_append_src _ rfl _ _ 26 rfl w.heap.size 3 inf (.int .i64 0) 1 8 Tryz.underlying26 hif hz0 hz1 hz2 rfl (by decide) (.slice (some ⟨w.heap.size, 0, none⟩) 0 0) 0 [] rfl (World.ownsRow_made w #[] 0 (Nat.le_refl _) (by decide) (by simp)) (some ad) n c (l.map (Value.int .i64)) rfl hs2 (ints_oneCell l) (by unfold maxLen; omega) (by omega) (by simp) ?_)
    intro v' w' hown hgr hat
    rw [← HL.out] at hown
    have hb : Below w.heap.size w w' := (show Below w.heap.size w (w.alloc (.cells #[] 3)) by (repeat (first | with_reducible exact Below.refl _ _ | with_reducible assumption | with_reducible refine below_alloc ?_ _ | ((with_reducible refine Below.setCell ?_ ?_ _); rotate_left; (· first | exact Nat.le_refl _ | (simp; done) | (simp; omega))) | with_reducible refine below_drewN ?_ _ | with_reducible refine Below.drew ?_ | with_reducible refine below_then ?_ (by with_reducible assumption)))).grown hgr (by simp) (fun g hg => by simp [Value.ownBlock] at hg; omega)
    clear hgr hat
    go_wp2_with fail
    go_ret
    exact RetOwn.ints hown HO.out hb
theorem sl_ints_ok {w : World} {lo hi n c : Nat} {A : Option Addr} {l : List Int} (h : Sl intR w lo hi A n c l) : ∀ t, t ∈ l → I64 t := by
  intro t ht
  obtain ⟨i, hi, rfl⟩ := List.getElem_of_mem ht
  obtain ⟨_, _, _, _, _, _, e⟩ := h.int_at (k := i) (by rw [← h.lenEq]; exact hi)
  exact e
end Go.Proofs.YtmnkgcjbckamnaaGreat
