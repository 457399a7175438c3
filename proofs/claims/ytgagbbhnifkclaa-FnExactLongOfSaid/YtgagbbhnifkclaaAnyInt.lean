/- slices.IndexFunc, slices.ContainsFunc over slices of int. Printed by anygen.py. Walks. -/
import Derived.Test.YtgagbbhnifkclaaInts
import Derived.Test.YtgagbbhnifkclaaAnyBase
set_option linter.unusedVariables false
set_option linter.unusedSimpArgs false
set_option maxRecDepth 100000
namespace Go.Proofs.Ytgagbbhnifkclaa
open Go.RowKit

theorem idxFuncInt (g : FuncId) (cap : Array Value) (p : Int → Bool) (w : World) (lo hi n c : Nat) (A : Option Addr) (l : List Int) (h : Sl intR w lo hi A n c l) (hh : hi ≤ w.heap.size)
    (eg : ∀ (args : Array Value) (w : World), (callFunc g args).run Try.prog w = .ok (.enter g args) w)
    (hp : ∀ (W : World) (x0 : Int), x0 ∈ l → Below w.heap.size w W → I64 x0 → Calls Try.prog g (#[.int .i64 x0] ++ cap) W (RetB (p x0) W)) :
    Calls Try.prog 195 #[.slice A n c, .func (.func g) #[] cap] w (RetIx (idxW p l) w) := by
  have e1 := h.lenEq
  have b1 := h.lenLe
  have HP := Lib.hid hp
  clear hp
  go_enter Try.func195, Try.ntmps195
  go_wp2
  go_loopw [8] (fun i wr => ∃ k : Nat, k ≤ n ∧ i = .int .i64 k ∧ (l.take k).any p = false ∧ Below w.heap.size w wr) (fun i _ => n - (intOf i).toNat)
  case atStart => exact ⟨0, Nat.zero_le _, rfl, rfl, Below.refl _ _⟩
  case round =>
    obtain ⟨k, hk, rfl, ht0, hb⟩ := hrel
    have ht := Lib.hid ht0
    clear ht0
    by_cases hlt : k < n
    · obtain ⟨b, o, rfl, _, _, hc1, i0⟩ := (h.below hb hh).int_at hlt
      generalize hl0 : l[k]'(by omega) = x0 at hc1 i0
      have hmem : x0 ∈ l := hl0 ▸ List.getElem_mem (l := l) (n := k) (by omega)
      have hok := Lib.hid (fun (hp : p x0 = false) => any_take_succ (p := p) ht.out (by omega) (by rw [hl0]; exact hp))
      have hno := Lib.hid (fun (hp : p x0 = true) => idxW_at (p := p) (l := l) (k := k) (by omega) ht.out (by rw [hl0]; exact hp))
      have HC := Lib.hid (fun W (hW : Below wr.heap.size wr W) => HP.out W x0 hmem (below_then hb hW) i0)
      clear hl0 hmem
      go_wp2_with fail
      refine (HC.out _ (by (repeat (first | with_reducible exact Below.refl _ _ | with_reducible assumption | with_reducible refine below_alloc ?_ _ | ((with_reducible refine Below.setCell ?_ ?_ _); rotate_left; (· first | exact Nat.le_refl _ | (simp; done) | (simp; omega))) | with_reducible refine below_drewN ?_ _ | with_reducible refine Below.drew ?_ | with_reducible refine below_then ?_ (by with_reducible assumption))))).mono ?_
      rintro e w2 ⟨rfl, hb2⟩
      have hb3 := below_then hb (show Below wr.heap.size wr w2 by (repeat (first | with_reducible exact Below.refl _ _ | with_reducible assumption | with_reducible refine below_alloc ?_ _ | ((with_reducible refine Below.setCell ?_ ?_ _); rotate_left; (· first | exact Nat.le_refl _ | (simp; done) | (simp; omega))) | with_reducible refine below_drewN ?_ _ | with_reducible refine Below.drew ?_ | with_reducible refine below_then ?_ (by with_reducible assumption))))
      clear HC
      by_cases hpx : p x0 = true
      · have hs := Lib.hid (hno.out hpx)
        go_wp2_with fail
        go_ret
        exact ⟨rfl_ix hs.out.symm, hb3⟩
      · have hpx : p x0 = false := by simpa using hpx
        have hs := Lib.hid (hok.out hpx)
        go_wp2_with fail
        go_roundw
        case rel => exact ⟨k + 1, by omega, by go_num, hs.out, hb3⟩
        case measure => simp [intOf]; omega
    · have hs := Lib.hid (idxW_none (p := p) (l := l) (by have := ht.out; rwa [List.take_of_length_le (by omega)] at this))
      go_wp2_with fail
      go_ret
      exact ⟨rfl_ix hs.out.symm, hb⟩
theorem conFuncInt (g : FuncId) (cap : Array Value) (p : Int → Bool) (w : World) (lo hi n c : Nat) (A : Option Addr) (l : List Int) (h : Sl intR w lo hi A n c l) (hh : hi ≤ w.heap.size)
    (eg : ∀ (args : Array Value) (w : World), (callFunc g args).run Try.prog w = .ok (.enter g args) w)
    (hp : ∀ (W : World) (x0 : Int), x0 ∈ l → Below w.heap.size w W → I64 x0 → Calls Try.prog g (#[.int .i64 x0] ++ cap) W (RetB (p x0) W)) :
    Calls Try.prog 143 #[.slice A n c, .func (.func g) #[] cap] w (RetB (l.any p) w) := by
  have HP := Lib.hid hp
  have EG := Lib.hid eg
  have e1 := h.lenEq
  have b1 := h.lenLe
  clear hp eg
  have hq := Lib.hid (idxW_any p l)
  obtain ⟨v, hv0⟩ : ∃ v, v = idxW p l := ⟨_, rfl⟩
  have hv := Lib.hid hv0
  clear hv0
  go_enter Try.func143, Try.ntmps143
  go_wp2_with fail
  refine (idxFuncInt g cap p _ lo hi n c A l h hh EG.out HP.out).mono ?_
  rintro e w2 ⟨rfl, hb⟩
  rw [← hv.out]
  go_wp2_with fail
  go_ret
  exact RetB.mk (by rw [← hq.out, ← hv.out]) hb
end Go.Proofs.Ytgagbbhnifkclaa
