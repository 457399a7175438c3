/- slices.Clone of lists of tokens, of ints. Walks. -/
import Derived.Test.YthdpkcmeepabjaaSlc
import Derived.Test.YthdpkcmeepabjaaLowA
import Derived.WalkSpells
set_option linter.unusedVariables false
set_option linter.unusedSimpArgs false
set_option maxRecDepth 100000
namespace Go.Proofs.Ythdpkcmeepabjaa
open Go.RowKit
theorem sl_nil_addr {α : Type} {R : Rp α} {w : World} {lo hi n c : Nat} {l : List α} (h : Sl R w lo hi none n c l) : l = [] := by
  rcases Nat.eq_zero_or_pos n with h0 | h0
  · exact List.eq_nil_of_length_eq_zero (by rw [h.lenEq, h0])
  · obtain ⟨_, _, _, h1, _⟩ := h.at_ h0; cases h1
theorem Try.infoTok2 : (Try.prog.info? 202).map (fun i => (i.zero, i.size, i.bytes)) = some (some (.agg #[.int .i64 0, .int .i64 0]), 2, 16) := by kernel_rfl
def TokRow (w : World) (base : Nat) (v : Value) (l : List Tok) : Prop := w.ownsRow base 202 2 v l.length (encL insV l)
def RetTok (l : List Tok) (w : World) (e : Ending) (w' : World) : Prop := ∃ v, e = .returned v ∧ TokRow w' w.heap.size v l ∧ Below w.heap.size w w'
theorem RetTok.own {l : List Tok} {w w' : World} {e : Ending} (h : RetTok l w e w') (hok : ∀ t, t ∈ l → okIns t) : RetOwn TokR 202 l w e w' := by
  obtain ⟨v, rfl, hr, hb⟩ := h
  exact RetOwn.flat hr (fun x hx => tok_own (hok x hx)) hb
theorem tokRow_at {w : World} {b g m c k : Nat} {l : List Tok} (h : TokRow w b (.slice (some ⟨g, 0, none⟩) m c) l) (hk : k < l.length) : w.cell? ⟨g, k * 2, none⟩ = some (.int .i64 l[k].1) ∧ w.cell? ⟨g, k * 2 + 1, none⟩ = some (.int .i64 l[k].2) := by
  unfold TokRow at h
  have hm := (ownsRow_cases (World.ownsRow.mono h (Nat.zero_le _))).1
  subst hm
  have h0 := h.cellAt (k * 2) (by omega)
  have h1 := h.cellAt (k * 2 + 1) (by omega)
  have e0 := encL_at insV_len l k hk 0 (by decide)
  have e1 := encL_at insV_len l k hk 1 (by decide)
  rw [Nat.add_zero] at e0
  exact ⟨h0.trans (by rw [e0]; rfl), h1.trans (by rw [e1]; rfl)⟩
theorem cloneToksR (w : World) (lo hi : Nat) (A : Option Addr) (n c : Nat) (l : List Tok) (h : Sl TokR w lo hi A n c l) (hh : hi ≤ w.heap.size) (hn : n ≤ 1048576) :
    Calls Try.prog 143 #[.slice A n c] w (RetTok l w) := by
  have hs := fun w : World => Lib.run_eql_slice_nil (P := Try.prog) w 117 202 A n c 0 0 Try.underlying117
  cases A with
  | none =>
    have hl := sl_nil_addr h
    go_enter Try.func143, Try.ntmps143
    go_wp2_with fail
    go_ret
    subst hl
    exact ⟨_, rfl, by unfold TokRow; exact World.ownsRow_nil _ _ _ _, by (repeat (first | with_reducible exact Below.refl _ _ | with_reducible assumption | with_reducible refine below_alloc ?_ _ | ((with_reducible refine Below.setCell ?_ ?_ _); rotate_left; (· first | exact Nat.le_refl _ | (simp; done) | (simp; omega))) | with_reducible refine below_drewN ?_ _ | with_reducible refine Below.drew ?_ | with_reducible refine below_then ?_ (by with_reducible assumption)))⟩
  | some ad =>
    obtain ⟨inf, hif, hz0, hz1, hz2⟩ := info_parts Try.infoTok2
    have HL := Lib.hid h.lenEq
    have hs2 := src_toks ((h.more (Nat.zero_le lo) hh).below (show Below w.heap.size w (w.alloc (.cells #[] 202)) by (repeat (first | with_reducible exact Below.refl _ _ | with_reducible assumption | with_reducible refine below_alloc ?_ _ | ((with_reducible refine Below.setCell ?_ ?_ _); rotate_left; (· first | exact Nat.le_refl _ | (simp; done) | (simp; omega))) | with_reducible refine below_drewN ?_ _ | with_reducible refine Below.drew ?_ | with_reducible refine below_then ?_ (by with_reducible assumption)))) (Nat.le_refl _))
    go_enter Try.func143, Try.ntmps143
    go_wp2_with (at_builtin; refine wpList_append_src _ rfl _ _ 117 rfl w.heap.size 202 inf (.agg #[.int .i64 0, .int .i64 0]) 2 16 Try.underlying117 hif hz0 hz1 hz2 rfl (by decide) (.slice (some ⟨w.heap.size, 0, none⟩) 0 0) 0 [] rfl (World.ownsRow_made w #[] 0 (Nat.le_refl _) (by decide) (by simp)) (some ad) n c (encL insV l) rfl hs2 (encL_one' insV_one) (by unfold maxLen; omega) (by omega) (by simp) ?_)
    intro v' w' hown hgr hat
    rw [← HL.out] at hown
    have hb : Below w.heap.size w w' := (show Below w.heap.size w (w.alloc (.cells #[] 202)) by (repeat (first | with_reducible exact Below.refl _ _ | with_reducible assumption | with_reducible refine below_alloc ?_ _ | ((with_reducible refine Below.setCell ?_ ?_ _); rotate_left; (· first | exact Nat.le_refl _ | (simp; done) | (simp; omega))) | with_reducible refine below_drewN ?_ _ | with_reducible refine Below.drew ?_ | with_reducible refine below_then ?_ (by with_reducible assumption)))).grown hgr (by simp) (fun g hg => by simp [Value.ownBlock] at hg; omega)
    clear hgr hat
    go_wp2_with fail
    go_ret
    exact ⟨v', rfl, hown, hb⟩
theorem cloneToks (w : World) (lo hi : Nat) (A : Option Addr) (n c : Nat) (l : List Tok) (h : Sl TokR w lo hi A n c l) (hh : hi ≤ w.heap.size) (hn : n ≤ 1048576) (hok : ∀ t, t ∈ l → okIns t) :
    Calls Try.prog 143 #[.slice A n c] w (RetOwn TokR 202 l w) :=
  (cloneToksR w lo hi A n c l h hh hn).mono fun _ _ h => h.own hok
theorem cloneInts (w : World) (lo hi : Nat) (A : Option Addr) (n c : Nat) (l : List Int) (h : Sl intR w lo hi A n c l) (hh : hi ≤ w.heap.size) (hn : n ≤ 1048576) (hok : ∀ t, t ∈ l → I64 t) :
    Calls Try.prog 142 #[.slice A n c] w (RetOwn intR 3 l w) := by
  have hs := fun w : World => Lib.run_eql_slice_nil (P := Try.prog) w 30 3 A n c 0 0 Try.underlying30
  cases A with
  | none =>
    have hl := sl_nil_addr h
    go_enter Try.func142, Try.ntmps142
    go_wp2_with fail
    go_ret
    subst hl
    exact RetOwn.mk rfl (OwnSl.nil_ _ _ _) (by simp) (by (repeat (first | with_reducible exact Below.refl _ _ | with_reducible assumption | with_reducible refine below_alloc ?_ _ | ((with_reducible refine Below.setCell ?_ ?_ _); rotate_left; (· first | exact Nat.le_refl _ | (simp; done) | (simp; omega))) | with_reducible refine below_drewN ?_ _ | with_reducible refine Below.drew ?_ | with_reducible refine below_then ?_ (by with_reducible assumption))))
  | some ad =>
    obtain ⟨inf, hif, hz0, hz1, hz2⟩ := info_parts Try.infoInt
    have HL := Lib.hid h.lenEq
    have HO := Lib.hid hok
    clear hok
    have hs2 := src_ints ((h.more (Nat.zero_le lo) hh).below (show Below w.heap.size w (w.alloc (.cells #[] 3)) by (repeat (first | with_reducible exact Below.refl _ _ | with_reducible assumption | with_reducible refine below_alloc ?_ _ | ((with_reducible refine Below.setCell ?_ ?_ _); rotate_left; (· first | exact Nat.le_refl _ | (simp; done) | (simp; omega))) | with_reducible refine below_drewN ?_ _ | with_reducible refine Below.drew ?_ | with_reducible refine below_then ?_ (by with_reducible assumption)))) (Nat.le_refl _))
    go_enter Try.func142, Try.ntmps142
    go_wp2_with (at_builtin; refine wpList_append_src _ rfl _ _ 30 rfl w.heap.size 3 inf (.int .i64 0) 1 8 Try.underlying30 hif hz0 hz1 hz2 rfl (by decide) (.slice (some ⟨w.heap.size, 0, none⟩) 0 0) 0 [] rfl (World.ownsRow_made w #[] 0 (Nat.le_refl _) (by decide) (by simp)) (some ad) n c (l.map (Value.int .i64)) rfl hs2 (ints_oneCell l) (by unfold maxLen; omega) (by omega) (by simp) ?_)
    intro v' w' hown hgr hat
    rw [← HL.out] at hown
    have hb : Below w.heap.size w w' := (show Below w.heap.size w (w.alloc (.cells #[] 3)) by (repeat (first | with_reducible exact Below.refl _ _ | with_reducible assumption | with_reducible refine below_alloc ?_ _ | ((with_reducible refine Below.setCell ?_ ?_ _); rotate_left; (· first | exact Nat.le_refl _ | (simp; done) | (simp; omega))) | with_reducible refine below_drewN ?_ _ | with_reducible refine Below.drew ?_ | with_reducible refine below_then ?_ (by with_reducible assumption)))).grown hgr (by simp) (fun g hg => by simp [Value.ownBlock] at hg; omega)
    clear hgr hat
    go_wp2_with fail
    go_ret
    exact RetOwn.ints hown HO.out hb
theorem sl_ints_ok {w : World} {lo hi n c : Nat} {A : Option Addr} {l : List Int} (h : Sl intR w lo hi A n c l) : ∀ t, t ∈ l → I64 t := by
  intro t ht
  obtain ⟨i, hi, rfl⟩ := List.getElem_of_mem ht
  obtain ⟨_, _, _, _, _, _, e⟩ := h.int_at (k := i) (by rw [← h.lenEq]; exact hi)
  exact e
end Go.Proofs.Ythdpkcmeepabjaa
