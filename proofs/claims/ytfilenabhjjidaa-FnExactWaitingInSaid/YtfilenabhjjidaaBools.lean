/- The laws' own helpers over lists of bools. Walks. -/
import Derived.Test.YtfilenabhjjidaaInts
import Derived.Deep.QuietTactic
import Derived.BigQuiet
set_option linter.unusedVariables false
set_option linter.unusedSimpArgs false
namespace Go.Proofs.Ytfilenabhjjidaa
open Go.RowKit

theorem Sl.bool_at {w : World} {lo hi : Nat} {A : Option Addr} {n c k : Nat} {l : List Bool} (h : Sl boolR w lo hi A n c l) (hk : k < n) :
    ∃ b off, A = some ⟨b, off, none⟩ ∧ lo ≤ b ∧ b < hi ∧ w.cell? ⟨b, off + k, none⟩ = some (.bool (l[k]'(by have := h.1; omega))) ∧ True := by
  obtain ⟨b, off, cs, rfl, h1, h2, ⟨rfl, _⟩, hc⟩ := h.at_ hk
  have := hc 0 (by simp)
  simp [boolR, flatR] at this
  exact ⟨b, off, rfl, h1, h2, this, trivial⟩
theorem lawsEqBoolS (w : World) (lo hi lo' hi' n n' c c' : Nat) (A A' : Option Addr) (l l' : List Bool) (h : Sl boolR w lo hi A n c l) (h' : Sl boolR w lo' hi' A' n' c' l') (hh : hi ≤ w.heap.size) (hh' : hi' ≤ w.heap.size) :
    Calls Try.prog 223 #[.slice A n c, .slice A' n' c'] w (RetB (eqB l l') w) := by
  have e1 := h.lenEq
  have e2 := h'.lenEq
  have b1 := h.lenLe
  have b2 := h'.lenLe
  by_cases hn : n = n'
  · subst hn
    have hn' : ((n : Int) != (n : Int)) = false := by simp
    go_enter Try.func223, Try.ntmps223
    go_wp2
    go_loopw [5] (fun i wr => ∃ k : Nat, k ≤ n ∧ i = .int .i64 k ∧ l.take k = l'.take k ∧ Below w.heap.size w wr) (fun i _ => n - (intOf i).toNat)
    case atStart => exact ⟨0, Nat.zero_le _, rfl, rfl, Below.refl _ _⟩
    case round =>
      obtain ⟨k, hk, rfl, ht0, hb⟩ := hrel
      have ht := Lib.hid ht0
      clear ht0
      by_cases hlt : k < n
      · obtain ⟨b, o, rfl, _, _, hc1, _⟩ := (h.below hb hh).bool_at hlt
        obtain ⟨b', o', rfl, _, _, hc2, _⟩ := (h'.below hb hh').bool_at hlt
        have hst := Lib.hid (fun (he : l[k]'(by omega) = l'[k]'(by omega)) => take_eq_snoc ht.out (by omega) (by omega) he)
        have hne := Lib.hid (fun (he : ¬ l[k]'(by omega) = l'[k]'(by omega)) => ne_of_at (by omega) (by omega) he)
        generalize hp0 : l[k]'(by omega) = p at hc1
        generalize hq0 : l'[k]'(by omega) = q at hc2
        have hp := Lib.hid hp0
        have hq := Lib.hid hq0
        clear hp0 hq0
        by_cases he : p = q
        · have hs := Lib.hid (hst.out (by rw [hp.out, hq.out, he]))
          subst he
          cases p
          all_goals
            go_wp2
            go_quiet (fail)
            go_wp2
            go_roundw
            case rel => exact ⟨k + 1, by omega, by go_num, hs.out, below_drewN hb _⟩
            case measure => simp [intOf]; omega
        · have hs := Lib.hid (eqB_false (hne.out (by rw [hp.out, hq.out]; exact he)))
          cases p <;> cases q <;> first | (exact absurd rfl he) | skip
          all_goals
            clear he
            go_wp2
            go_quiet (fail)
            go_wp2
            go_ret
            exact RetB.mk hs.out.symm (below_drewN hb _)
      · go_wp2
        go_ret
        exact RetB.mk (eqB_true (eq_of_takes ht.out (by omega) (by omega))).symm hb
  · have hn' : ((n : Int) != (n' : Int)) = true := by simp; omega
    have hd := Lib.hid (eqB_false (x := l) (y := l') (by rintro rfl; omega))
    go_enter Try.func223, Try.ntmps223
    go_wp2
    go_ret
    exact RetB.mk hd.out.symm (Below.refl _ _)

theorem Try.infoBool : (Try.prog.info? 4).map (fun i => (i.zero, i.size, i.bytes)) = some (some (.bool false), 1, 1) := by kernel_rfl
theorem lawsToBoolS (w : World) (lo hi n c : Nat) (A : Option Addr) (l : List Bool) (h : Sl boolR w lo hi A n c l) (hh : hi ≤ w.heap.size) (hn : n ≤ 1048576) :
    Calls Try.prog 222 #[.slice A n c] w (RetOwn boolR 4 l w) := by
  have e1 := h.lenEq
  obtain ⟨i0, hi0, hz0, hz1, hz2⟩ := info_parts Try.infoBool
  go_enter Try.func222, Try.ntmps222
  go_wp2_with (at_make; refine wpList_make_full _ rfl _ _ 125 rfl 0 4 i0 (.bool false) 1 Try.underlying125 hi0 hz0 hz1 _ _ _ _ n rfl rfl rfl rfl (by rw [hz2]; omega) (by unfold maxLen; omega) (Nat.zero_le _) ?_)
  intro w1 hown hg
  have hF := Fill.start (R := boolR) hown
  have hb0 : Below w.heap.size w w1 := (Below.refl _ _).grown hg (Nat.le_refl _) (fun k hk => by cases hk)
  go_wp2
  go_loopw [4] (fun i wr => ∃ k : Nat, k ≤ n ∧ i = .int .i64 k ∧ Fill boolR wr 4 [w.heap.size] w.heap.size n (l.take k) ∧ Below w.heap.size w wr) (fun i _ => n - (intOf i).toNat)
  case atStart => exact ⟨0, Nat.zero_le _, rfl, hF, hb0⟩
  case round =>
    obtain ⟨k, hk, rfl, hF, hb⟩ := hrel
    by_cases hlt : k < n
    · obtain ⟨b, o, rfl, _, _, hc1, hi1⟩ := (h.below hb hh).bool_at hlt
      have hlk : (l.take k).length = k := by simp; omega
      obtain ⟨u, hu⟩ := hF.cell (by omega) (j := 0) (by decide)
      rw [hlk, show k * boolR.size + 0 = k from Nat.mul_one k] at hu
      have hfz := hF.frozen k
      have hx : boolR.own wr [] [.bool (l[k]'(by omega))] (l[k]'(by omega)) := ⟨rfl, rfl, trivial⟩
      have hst := hF.step (by omega) hx (by simp)
      rw [hlk, show k * boolR.size = k from Nat.mul_one k, ← List.take_succ_eq_append_getElem (by omega)] at hst
      have hsb := hb.setCell (p := ⟨w.heap.size, k, none⟩) (Nat.le_refl _) (.bool (l[k]'(by omega)))
      go_wp2
      go_roundw
      case rel => exact ⟨k + 1, by omega, by go_num, hst, hsb⟩
      case measure => simp [intOf]; omega
    · go_wp2
      go_ret
      exact RetOwn.mk rfl (hF.all e1 (by omega)) (by simp) hb

theorem lawsSzBoolS (w : World) (n c : Nat) (A : Option Addr) (left : Int) (h1 : 0 ≤ left) (h2 : left ≤ 1048576) (hn : n ≤ 9223372036854775807) :
    Calls Try.prog 221 #[.slice A n c, .int .i64 left] w (RetSz left n w) := by
  by_cases h : (n : Int) ≤ left
  · go_enter Try.func221, Try.ntmps221
    go_wp2
    go_ret
    exact ⟨_, rfl, Or.inr ⟨by omega, rfl⟩, Below.refl _ _⟩
  · have hd : decide (left - (n : Int) < 0) = true := by simp; omega
    go_enter Try.func221, Try.ntmps221
    go_wp2
    go_ret
    exact ⟨_, rfl, Or.inl rfl, Below.refl _ _⟩


end Go.Proofs.Ytfilenabhjjidaa
