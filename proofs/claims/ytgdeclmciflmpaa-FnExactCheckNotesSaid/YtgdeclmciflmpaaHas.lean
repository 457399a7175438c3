/- Whether a list of ints holds a number: both sides. Walks. -/
import Derived.Test.YtgdeclmciflmpaaNotesI
set_option linter.unusedVariables false
set_option linter.unusedSimpArgs false
set_option maxRecDepth 100000
namespace Go.Proofs.Ytgdeclmciflmpaa
open Go.RowKit
theorem nomem_succ {l : List Int} {n : Int} {k : Nat} (hk : k < l.length) (h : (l.take k).contains n = false) (he : ¬ l[k] = n) : (l.take (k + 1)).contains n = false := by
  rw [List.take_succ_eq_append_getElem hk]
  simp only [List.contains_append, h, Bool.false_or, List.contains_cons, List.contains_nil, Bool.or_false]
  simpa using fun e => he e.symm
theorem mem_here {l : List Int} {n : Int} {k : Nat} (hk : k < l.length) (he : l[k] = n) : l.contains n = true := by
  simpa using he ▸ List.getElem_mem hk
theorem specL1Has (w : World) (lo hi : Nat) (A : Option Addr) (n c : Nat) (l : List Int) (x : Int) (h : Sl intR w lo hi A n c l) (hh : hi ≤ w.heap.size) :
    Calls Try.prog 59 #[.slice A n c, .int .i64 x] w (RetB (l.contains x) w) := by
  have e1 := h.lenEq
  have b1 := h.lenLe
  go_enter Try.func59, Try.ntmps59
  go_wp2_with fail
  go_loopw [9] (fun i wr => ∃ k : Nat, k ≤ n ∧ i = .int .i64 k ∧ Hid ((l.take k).contains x = false) ∧ Below w.heap.size w wr) (fun i _ => n - (intOf i).toNat)
  case atStart => exact ⟨0, Nat.zero_le _, rfl, Lib.hid (by simp), Below.refl _ _⟩
  case round =>
    obtain ⟨k, hk, rfl, hm, hb⟩ := hrel
    by_cases hlt : k < n
    · obtain ⟨b, o, rfl, _, _, hc, _⟩ := (h.below hb hh).int_at hlt
      have hy := Lib.hid (show l[k]'(by omega) = x → l.contains x = true from fun e => mem_here (by omega) e)
      have hno := Lib.hid (show ¬ l[k]'(by omega) = x → (l.take (k + 1)).contains x = false from nomem_succ (by omega) hm.out)
      generalize l[k]'(by omega) = y at hc hy hno
      by_cases he : y = x
      · have hv := Lib.hid (hy.out he)
        have hd : (y == x) = true := by simp [he]
        clear hy hno he
        go_wp2_with fail
        go_ret
        exact RetB.mk hv.out.symm hb
      · have hv := Lib.hid (hno.out he)
        have hd : (y == x) = false := by simp; omega
        clear hy hno he
        go_wp2_with fail
        go_roundw
        case rel => exact ⟨k + 1, by omega, by go_num, hv, hb⟩
        case measure => simp [intOf]; omega
    · have hv := Lib.hid (show l.contains x = false by have := hm.out; rwa [List.take_of_length_le (by omega)] at this)
      clear hm
      go_wp2_with fail
      go_ret
      exact RetB.mk hv.out.symm hb
theorem slicesIndexR (w : World) (lo hi : Nat) (A : Option Addr) (n c : Nat) (l : List Int) (x : Int) (h : Sl intR w lo hi A n c l) (hh : hi ≤ w.heap.size) :
    Calls Try.prog 123 #[.slice A n c, .int .i64 x] w (RetIdx (l.contains x) w) := by
  have e1 := h.lenEq
  have b1 := h.lenLe
  go_enter Try.func123, Try.ntmps123
  go_wp2_with fail
  go_loopw [8] (fun i wr => ∃ k : Nat, k ≤ n ∧ i = .int .i64 k ∧ Hid ((l.take k).contains x = false) ∧ Below w.heap.size w wr) (fun i _ => n - (intOf i).toNat)
  case atStart => exact ⟨0, Nat.zero_le _, rfl, Lib.hid (by simp), Below.refl _ _⟩
  case round =>
    obtain ⟨k, hk, rfl, hm, hb⟩ := hrel
    by_cases hlt : k < n
    · obtain ⟨b, o, rfl, _, _, hc, _⟩ := (h.below hb hh).int_at hlt
      have hy := Lib.hid (show l[k]'(by omega) = x → l.contains x = true from fun e => mem_here (by omega) e)
      have hno := Lib.hid (show ¬ l[k]'(by omega) = x → (l.take (k + 1)).contains x = false from nomem_succ (by omega) hm.out)
      generalize l[k]'(by omega) = y at hc hy hno
      by_cases he : y = x
      · have hv := Lib.hid (hy.out he)
        have hd : (x == y) = true := by simp [he]
        clear hy hno he
        go_wp2_with fail
        go_ret
        exact ⟨_, rfl, by rw [hv.out]; simp, hb⟩
      · have hv := Lib.hid (hno.out he)
        have hd : (x == y) = false := by simp; omega
        clear hy hno he
        go_wp2_with fail
        go_roundw
        case rel => exact ⟨k + 1, by omega, by go_num, hv, hb⟩
        case measure => simp [intOf]; omega
    · have hv := Lib.hid (show l.contains x = false by have := hm.out; rwa [List.take_of_length_le (by omega)] at this)
      clear hm
      go_wp2_with fail
      go_ret
      exact ⟨_, rfl, by rw [hv.out]; rfl, hb⟩
theorem slicesContains (w : World) (lo hi : Nat) (A : Option Addr) (n c : Nat) (l : List Int) (x : Int) (h : Sl intR w lo hi A n c l) (hh : hi ≤ w.heap.size) :
    Calls Try.prog 81 #[.slice A n c, .int .i64 x] w (RetB (l.contains x) w) := by
  go_enter Try.func81, Try.ntmps81
  go_wp2_with fail
  refine (slicesIndexR w lo hi A n c l x h hh).mono ?_
  rintro e w2 ⟨r, rfl, hr, hb⟩
  have HR := Lib.hid hr
  clear hr
  go_wp2_with fail
  go_ret
  exact RetB.mk HR.out hb
end Go.Proofs.Ytgdeclmciflmpaa
