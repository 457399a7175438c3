/- SameInts. Printed by samegen.py. Walks. -/
import Derived.Test.YtikffchdembbjaaInts
set_option linter.unusedVariables false
set_option linter.unusedSimpArgs false
set_option maxRecDepth 100000
namespace Go.Proofs.Ytikffchdembbjaa
open Go.RowKit

theorem slicesEqualInts (w : World) (lo hi lo' hi' n n' c c' : Nat) (A A' : Option Addr) (l l' : List Int) (h : Sl intR w lo hi A n c l) (h' : Sl intR w lo' hi' A' n' c' l') (hh : hi ≤ w.heap.size) (hh' : hi' ≤ w.heap.size) :
    Calls Try.prog 84 #[.slice A n c, .slice A' n' c'] w (RetB (eqB l l') w) := by
  have e1 := h.lenEq
  have e2 := h'.lenEq
  have b1 := h.lenLe
  have b2 := h'.lenLe
  by_cases hn : n = n'
  · subst hn
    have hn' : ((n : Int) != (n : Int)) = false := by simp
    go_enter Try.func84, Try.ntmps84
    go_wp2
    go_loopw [13] (fun i wr => ∃ k : Nat, k ≤ n ∧ i = .int .i64 k ∧ l.take k = l'.take k ∧ Below w.heap.size w wr) (fun i _ => n - (intOf i).toNat)
    case atStart => exact ⟨0, Nat.zero_le _, rfl, rfl, Below.refl _ _⟩
    case round =>
      obtain ⟨k, hk, rfl, ht0, hb⟩ := hrel
      have ht := Lib.hid ht0
      clear ht0
      by_cases hlt : k < n
      · obtain ⟨b, o, rfl, _, _, hc1, _⟩ := (h.below hb hh).int_at hlt
        obtain ⟨b', o', rfl, _, _, hc2, _⟩ := (h'.below hb hh').int_at hlt
        by_cases he : l[k]'(by omega) = l'[k]'(by omega)
        · have he1 : (l[k]'(by omega) != l'[k]'(by omega)) = false := by simp [he]
          have hs := Lib.hid (take_eq_snoc ht.out (by omega) (by omega) he)
          clear he
          go_wp2
          go_quiet (fail)
          go_wp2
          go_roundw
          case rel => exact ⟨k + 1, by omega, by go_num, hs.out, below_drewN hb _⟩
          case measure => simp [intOf]; omega
        · have he1 : (l[k]'(by omega) != l'[k]'(by omega)) = true := by simp [he]
          have hs := Lib.hid (eqB_false (ne_of_at (by omega) (by omega) he))
          clear he
          go_wp2
          go_quiet (fail)
          go_wp2
          go_ret
          exact RetB.mk hs.out.symm (below_drewN hb _)
      · go_wp2
        go_ret
        exact RetB.mk (eqB_true (eq_of_takes ht.out (by omega) (by omega))).symm hb
  · have hn' : ((n : Int) != (n' : Int)) = true := by simp; omega
    have hd := Lib.hid (eqB_false (x := l) (y := l') (by rintro rfl; omega))
    go_enter Try.func84, Try.ntmps84
    go_wp2
    go_ret
    exact RetB.mk hd.out.symm (Below.refl _ _)

theorem specL1Same (w : World) (lo hi lo' hi' n n' c c' : Nat) (A A' : Option Addr) (l l' : List Int) (h : Sl intR w lo hi A n c l) (h' : Sl intR w lo' hi' A' n' c' l') (hh : hi ≤ w.heap.size) (hh' : hi' ≤ w.heap.size) :
    Calls Try.prog 112 #[.slice A n c, .slice A' n' c'] w (RetB (eqB l l') w) := by
  have e1 := h.lenEq
  have e2 := h'.lenEq
  have b1 := h.lenLe
  have b2 := h'.lenLe
  by_cases hn : n = n'
  · subst hn
    have hn' : ((n : Int) != (n : Int)) = false := by simp
    go_enter Try.func112, Try.ntmps112
    go_wp2
    go_loopw [13] (fun i wr => ∃ k : Nat, k ≤ n ∧ i = .int .i64 k ∧ l.take k = l'.take k ∧ Below w.heap.size w wr) (fun i _ => n - (intOf i).toNat)
    case atStart => exact ⟨0, Nat.zero_le _, rfl, rfl, Below.refl _ _⟩
    case round =>
      obtain ⟨k, hk, rfl, ht0, hb⟩ := hrel
      have ht := Lib.hid ht0
      clear ht0
      by_cases hlt : k < n
      · obtain ⟨b, o, rfl, _, _, hc1, _⟩ := (h.below hb hh).int_at hlt
        obtain ⟨b', o', rfl, _, _, hc2, _⟩ := (h'.below hb hh').int_at hlt
        by_cases he : l[k]'(by omega) = l'[k]'(by omega)
        · have he1 : (l[k]'(by omega) != l'[k]'(by omega)) = false := by simp [he]
          have hs := Lib.hid (take_eq_snoc ht.out (by omega) (by omega) he)
          clear he
          go_wp2
          go_quiet (fail)
          go_wp2
          go_roundw
          case rel => exact ⟨k + 1, by omega, by go_num, hs.out, below_drewN hb _⟩
          case measure => simp [intOf]; omega
        · have he1 : (l[k]'(by omega) != l'[k]'(by omega)) = true := by simp [he]
          have hs := Lib.hid (eqB_false (ne_of_at (by omega) (by omega) he))
          clear he
          go_wp2
          go_quiet (fail)
          go_wp2
          go_ret
          exact RetB.mk hs.out.symm (below_drewN hb _)
      · go_wp2
        go_ret
        exact RetB.mk (eqB_true (eq_of_takes ht.out (by omega) (by omega))).symm hb
  · have hn' : ((n : Int) != (n' : Int)) = true := by simp; omega
    have hd := Lib.hid (eqB_false (x := l) (y := l') (by rintro rfl; omega))
    go_enter Try.func112, Try.ntmps112
    go_wp2
    go_ret
    exact RetB.mk hd.out.symm (Below.refl _ _)

end Go.Proofs.Ytikffchdembbjaa
