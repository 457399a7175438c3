/- SameTok. Printed by samegen.py. Walks. -/
import Derived.Test.YtikffchdembbjaaTyTok
import Derived.Deep.QuietTactic
import Derived.BigQuiet
set_option linter.unusedVariables false
set_option linter.unusedSimpArgs false
set_option maxRecDepth 100000
namespace Go.Proofs.Ytikffchdembbjaa
open Go.RowKit

theorem slicesEqualTok (w : World) (lo hi lo' hi' n n' c c' : Nat) (A A' : Option Addr) (l l' : List Tok) (h : Sl TokR w lo hi A n c l) (h' : Sl TokR w lo' hi' A' n' c' l') (hh : hi ≤ w.heap.size) (hh' : hi' ≤ w.heap.size) :
    Calls Try.prog 118 #[.slice A n c, .slice A' n' c'] w (RetB (eqB l l') w) := by
  have e1 := h.lenEq
  have e2 := h'.lenEq
  have b1 := h.lenLe
  have b2 := h'.lenLe
  by_cases hn : n = n'
  · subst hn
    have hn' : ((n : Int) != (n : Int)) = false := by simp
    go_enter Try.func118, Try.ntmps118
    go_wp2
    go_loopw [13] (fun i wr => ∃ k : Nat, k ≤ n ∧ i = .int .i64 k ∧ l.take k = l'.take k ∧ Below w.heap.size w wr) (fun i _ => n - (intOf i).toNat)
    case atStart => exact ⟨0, Nat.zero_le _, rfl, rfl, Below.refl _ _⟩
    case round =>
      obtain ⟨k, hk, rfl, ht0, hb⟩ := hrel
      have ht := Lib.hid ht0
      clear ht0
      by_cases hlt : k < n
      · obtain ⟨b, o, x0, x1, rfl, _, _, hl0, i0, i1, d0, d1⟩ := Tok_at (h.below hb hh) hlt
        obtain ⟨b', o', x0', x1', rfl, _, _, hl0', i0', i1', d0', d1'⟩ := Tok_at (h'.below hb hh') hlt
        have hl := Lib.hid hl0
        have hl' := Lib.hid hl0'
        clear hl0 hl0'
        have hst := Lib.hid (fun (he : l[k]'(by omega) = l'[k]'(by omega)) => take_eq_snoc ht.out (by omega) (by omega) he)
        have hne := Lib.hid (fun (he : ¬ l[k]'(by omega) = l'[k]'(by omega)) => ne_of_at (by omega) (by omega) he)
        by_cases he0 : (x0, x1) = (x0', x1')
        · have hs := Lib.hid (hst.out (by rw [hl.out, hl'.out, he0]))
          simp only [Prod.mk.injEq] at he0
          obtain ⟨rfl, rfl⟩ := he0
          go_wp2_with fail
          go_quiet (fail)
          go_wp2_with fail
          go_roundw
          case rel => exact ⟨k + 1, by omega, by go_num, hs.out, below_drewN hb _⟩
          case measure => simp [intOf]; omega
        · have hs := Lib.hid (eqB_false (hne.out (by rw [hl.out, hl'.out]; exact he0)))
          clear hst hne hl hl'
          simp only [Prod.mk.injEq] at he0
          by_cases e0 : x0 = x0'
          rotate_left
          · have q : (x0 == x0') = false := by simpa using e0
            clear he0 e0
            go_wp2_with fail
            go_quiet (fail)
            go_wp2_with fail
            go_ret
            exact RetB.mk hs.out.symm (below_drewN hb _)
          subst e0
          have q : (x1 == x1') = false := by simpa using he0
          clear he0
          go_wp2_with fail
          go_quiet (fail)
          go_wp2_with fail
          go_ret
          exact RetB.mk hs.out.symm (below_drewN hb _)
      · go_wp2_with fail
        go_ret
        exact RetB.mk (eqB_true (eq_of_takes ht.out (by omega) (by omega))).symm hb
  · have hn' : ((n : Int) != (n' : Int)) = true := by simp; omega
    have hd := Lib.hid (eqB_false (x := l) (y := l') (by rintro rfl; omega))
    go_enter Try.func118, Try.ntmps118
    go_wp2
    go_ret
    exact RetB.mk hd.out.symm (Below.refl _ _)
theorem specL14SameToks (w : World) (lo hi lo' hi' n n' c c' : Nat) (A A' : Option Addr) (l l' : List Tok) (h : Sl TokR w lo hi A n c l) (h' : Sl TokR w lo' hi' A' n' c' l') (hh : hi ≤ w.heap.size) (hh' : hi' ≤ w.heap.size) :
    Calls Try.prog 116 #[.slice A n c, .slice A' n' c'] w (RetB (eqB l l') w) := by
  have e1 := h.lenEq
  have e2 := h'.lenEq
  have b1 := h.lenLe
  have b2 := h'.lenLe
  by_cases hn : n = n'
  · subst hn
    have hn' : ((n : Int) != (n : Int)) = false := by simp
    go_enter Try.func116, Try.ntmps116
    go_wp2
    go_loopw [13] (fun i wr => ∃ k : Nat, k ≤ n ∧ i = .int .i64 k ∧ l.take k = l'.take k ∧ Below w.heap.size w wr) (fun i _ => n - (intOf i).toNat)
    case atStart => exact ⟨0, Nat.zero_le _, rfl, rfl, Below.refl _ _⟩
    case round =>
      obtain ⟨k, hk, rfl, ht0, hb⟩ := hrel
      have ht := Lib.hid ht0
      clear ht0
      by_cases hlt : k < n
      · obtain ⟨b, o, x0, x1, rfl, _, _, hl0, i0, i1, d0, d1⟩ := Tok_at (h.below hb hh) hlt
        obtain ⟨b', o', x0', x1', rfl, _, _, hl0', i0', i1', d0', d1'⟩ := Tok_at (h'.below hb hh') hlt
        have hl := Lib.hid hl0
        have hl' := Lib.hid hl0'
        clear hl0 hl0'
        have hst := Lib.hid (fun (he : l[k]'(by omega) = l'[k]'(by omega)) => take_eq_snoc ht.out (by omega) (by omega) he)
        have hne := Lib.hid (fun (he : ¬ l[k]'(by omega) = l'[k]'(by omega)) => ne_of_at (by omega) (by omega) he)
        by_cases he0 : (x0, x1) = (x0', x1')
        · have hs := Lib.hid (hst.out (by rw [hl.out, hl'.out, he0]))
          simp only [Prod.mk.injEq] at he0
          obtain ⟨rfl, rfl⟩ := he0
          go_wp2_with fail
          go_quiet (fail)
          go_wp2_with fail
          go_roundw
          case rel => exact ⟨k + 1, by omega, by go_num, hs.out, below_drewN hb _⟩
          case measure => simp [intOf]; omega
        · have hs := Lib.hid (eqB_false (hne.out (by rw [hl.out, hl'.out]; exact he0)))
          clear hst hne hl hl'
          simp only [Prod.mk.injEq] at he0
          by_cases e0 : x0 = x0'
          rotate_left
          · have q : (x0 == x0') = false := by simpa using e0
            clear he0 e0
            go_wp2_with fail
            go_quiet (fail)
            go_wp2_with fail
            go_ret
            exact RetB.mk hs.out.symm (below_drewN hb _)
          subst e0
          have q : (x1 == x1') = false := by simpa using he0
          clear he0
          go_wp2_with fail
          go_quiet (fail)
          go_wp2_with fail
          go_ret
          exact RetB.mk hs.out.symm (below_drewN hb _)
      · go_wp2_with fail
        go_ret
        exact RetB.mk (eqB_true (eq_of_takes ht.out (by omega) (by omega))).symm hb
  · have hn' : ((n : Int) != (n' : Int)) = true := by simp; omega
    have hd := Lib.hid (eqB_false (x := l) (y := l') (by rintro rfl; omega))
    go_enter Try.func116, Try.ntmps116
    go_wp2
    go_ret
    exact RetB.mk hd.out.symm (Below.refl _ _)
end Go.Proofs.Ytikffchdembbjaa
