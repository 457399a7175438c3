/- Prog: how it lies in cells; the laws' own helpers over it. Printed by typegen.py. Walks. -/
import Derived.Test.YtgagbbhnifkclaaUtil
import Derived.Test.YtgagbbhnifkclaaLawKit
import Derived.Test.YtgagbbhnifkclaaTyFunc
import Derived.Deep.RegionHeld3
set_option linter.unusedVariables false
set_option linter.unusedSimpArgs false
set_option maxRecDepth 100000
namespace Go.Proofs.Ytgagbbhnifkclaa
open Go.RowKit

abbrev Prog := List Func
def ProgR : Rp Prog := sliceR 139 FuncR
def mszProg (x : Prog) : Nat := mszLFunc x
def mszLProg (l : List Prog) : Nat := l.length + (l.map mszProg).sum
theorem mszProg_at {l : List Prog} {k : Nat} (hk : k < l.length) : mszProg l[k] ≤ mszLProg l := by have := mem_sum_le (f := mszProg) (List.getElem_mem hk); unfold mszLProg; omega
theorem mszLProg_len (l : List Prog) : l.length ≤ mszLProg l := by unfold mszLProg; omega
theorem Prog_rel {w : World} {lo hi : Nat} {cs : List Value} {x : Prog} (h : ProgR.rel w lo hi cs x) : ∃ A0 n0 c0 s0, cs = ([.slice A0 n0 c0] : List Value) ∧ x = s0 ∧ Sl FuncR w lo hi A0 n0 c0 s0 := by
  obtain ⟨A0, n0, c0, rfl, h0⟩ := h
  exact ⟨A0, n0, c0, x, rfl, rfl, h0⟩
theorem Prog_own {w : World} {A0 : Option Addr} {n0 c0 : Nat} {s0 : List Func} {F0 : List Nat} (o0 : OwnSl FuncR w 139 F0 (.slice A0 n0 c0) s0)  (hF : (F0).Nodup) : ProgR.own w (F0) [.slice A0 n0 c0] s0 := by
  exact ⟨A0, n0, c0, rfl, o0⟩
theorem Prog_sl0 {w : World} {F : List Nat} {A0 : Option Addr} {n0 c0 : Nat} {s0 : List Func} (h : ProgR.own w F [.slice A0 n0 c0] s0) : Sl FuncR w 0 w.heap.size A0 n0 c0 s0 := by
  have hr := ProgR.ownRel h (fun k hk => ⟨Nat.zero_le k, ProgR.ownLt h k hk⟩)
  obtain ⟨A0q, n0q, c0q, s0q, e, hx, h0⟩ := Prog_rel hr
  simp only [List.cons.injEq, Value.slice.injEq, Value.int.injEq, Value.bool.injEq, and_true, true_and] at e hx
  simp only [e, hx]; exact h0
theorem Prog_at {w : World} {lo hi : Nat} {A : Option Addr} {n c k : Nat} {l : List Prog} (h : Sl ProgR w lo hi A n c l) (hk : k < n) :
    ∃ b off A0 n0 c0 s0, A = some ⟨b, off, none⟩ ∧ lo ≤ b ∧ b < hi ∧ l[k]'(by have := h.1; omega) = s0 ∧ Sl FuncR w lo hi A0 n0 c0 s0 ∧ w.cell? ⟨b, off + k, none⟩ = some (.slice A0 n0 c0) := by
  obtain ⟨b, off, cs, rfl, hb1, hb2, hr, hc⟩ := h.at_ hk
  obtain ⟨A0, n0, c0, s0, rfl, hx, h0⟩ := Prog_rel hr
  have h0c := hc 0 (by simp)
  simp only [show ProgR.size = 1 from rfl, Nat.mul_one, Nat.add_zero] at h0c
  exact ⟨b, off, A0, n0, c0, s0, rfl, hb1, hb2, hx, h0, h0c⟩
theorem rdProg : Rd Try.prog 65 ProgR := rd_struct Try.underlying65 (by kernel_rfl) (rdF_one rfl (by kernel_rfl) rdFuncs)
def RetToProg (s0 : List Func) (w : World) (e : Ending) (w' : World) : Prop :=
  ∃ F A0 n0 c0, e = .returned (.agg #[.slice A0 n0 c0]) ∧ ProgR.own w' F [.slice A0 n0 c0] s0 ∧ (∀ k, k ∈ F → w.heap.size ≤ k) ∧ Below w.heap.size w w'
theorem lawsToProg (w : World) (lo hi : Nat) (A0 : Option Addr) (n0 c0 : Nat) (s0 : List Func) (h0 : Sl FuncR w lo hi A0 n0 c0 s0) (hh : hi ≤ w.heap.size) (m0 : mszLFunc s0 ≤ 1048576)  :
    Calls Try.prog 42 #[.agg #[.slice A0 n0 c0]] w (RetToProg s0 w) := by
  go_enter Try.func42, Try.ntmps42
  go_wp2_with fail
  refine (lawsToFuncS _ lo hi n0 c0 A0 s0 (h0.below (B := w.heap.size) (by (repeat (first | with_reducible exact Below.refl _ _ | with_reducible assumption | with_reducible refine below_alloc ?_ _ | ((with_reducible refine Below.setCell ?_ ?_ _); rotate_left; (· first | exact Nat.le_refl _ | (simp; done) | (simp; omega))) | with_reducible refine below_drewN ?_ _ | with_reducible refine Below.drew ?_ | with_reducible refine below_then ?_ (by with_reducible assumption)))) hh) (by first | omega | (simp; omega)) m0).mono ?_
  rintro e w0 ⟨F0, A0', n0', c0', rfl, o0, f0, b0⟩
  obtain ⟨hc0, hf0⟩ := bcell b0
  have hz0 := b0.size
  try simp at hz0
  have hv0 : w.heap.size < w0.heap.size := by omega
  have hx0 : w.heap.size + 1 < w0.heap.size := by omega
  have hy0 : w.heap.size + 1 + 1 < w0.heap.size := by omega
  have g0 : ∀ k, k ∈ F0 → w.heap.size + 3 ≤ k := fun k hk => by have := f0 k hk; simp at this; omega
  have l0 := o0.lt
  go_wp2_with fail
  refine bodyPost_ret (v := .agg #[.slice A0' n0' c0']) (by simp [results, Try.results42, go_sem, hc0, hf0, hv0, hx0, hy0]) rfl ?_
  have k0 := fun (W : World) (hW : Fr [w.heap.size, w.heap.size + 1, w.heap.size + 1 + 1] w0 W) => o0.fr hW (fun k hk hk' => by have := g0 k hk; simp at hk'; omega)
  exact ⟨_, A0', n0', c0', rfl, Prog_own (k0 _ (by (repeat (first | with_reducible exact Fr.refl _ _ | with_reducible assumption | ((with_reducible refine Fr.setCell ?_ ?_ _); rotate_left; (· first | (simp; done) | assumption | (simp; assumption))) | with_reducible refine Fr.drewN ?_ _ | with_reducible refine Fr.drew ?_ | with_reducible refine Fr.alloc ?_ _ | with_reducible refine Fr.trans ?_ (Fr.of_below (by with_reducible assumption))))))  o0.nodup, fun k hk => by have := g0 k hk; omega, by (repeat (first | with_reducible exact Below.refl _ _ | with_reducible assumption | with_reducible refine below_alloc ?_ _ | ((with_reducible refine Below.setCell ?_ ?_ _); rotate_left; (· first | exact Nat.le_refl _ | (simp; done) | (simp; omega))) | with_reducible refine below_drewN ?_ _ | with_reducible refine Below.drew ?_ | with_reducible refine below_then ?_ (by with_reducible assumption)))⟩
theorem lawsEqProg (w : World) (lo hi lo' hi' : Nat) (A0 : Option Addr) (n0 c0 : Nat) (s0 : List Func) (A0' : Option Addr) (n0' c0' : Nat) (s0' : List Func) (h0 : Sl FuncR w lo hi A0 n0 c0 s0) (h0' : Sl FuncR w lo' hi' A0' n0' c0' s0') (hh : hi ≤ w.heap.size) (hh' : hi' ≤ w.heap.size) :
    Calls Try.prog 44 #[.agg #[.slice A0 n0 c0], .agg #[.slice A0' n0' c0']] w (RetB (eqB s0 s0') w) := by
  go_enter Try.func44, Try.ntmps44
  go_wp2_with fail
  all_goals try (go_ret; exact RetB.mk (by simp_all [eqB]) (by (repeat (first | with_reducible exact Below.refl _ _ | with_reducible assumption | with_reducible refine below_alloc ?_ _ | ((with_reducible refine Below.setCell ?_ ?_ _); rotate_left; (· first | exact Nat.le_refl _ | (simp; done) | (simp; omega))) | with_reducible refine below_drewN ?_ _ | with_reducible refine Below.drew ?_ | with_reducible refine below_then ?_ (by with_reducible assumption)))))
  refine (lawsEqFuncS _ lo hi lo' hi' n0 n0' c0 c0' A0 A0' s0 s0' (h0.below (B := w.heap.size) (by (repeat (first | with_reducible exact Below.refl _ _ | with_reducible assumption | with_reducible refine below_alloc ?_ _ | ((with_reducible refine Below.setCell ?_ ?_ _); rotate_left; (· first | exact Nat.le_refl _ | (simp; done) | (simp; omega))) | with_reducible refine below_drewN ?_ _ | with_reducible refine Below.drew ?_ | with_reducible refine below_then ?_ (by with_reducible assumption)))) hh) (h0'.below (B := w.heap.size) (by (repeat (first | with_reducible exact Below.refl _ _ | with_reducible assumption | with_reducible refine below_alloc ?_ _ | ((with_reducible refine Below.setCell ?_ ?_ _); rotate_left; (· first | exact Nat.le_refl _ | (simp; done) | (simp; omega))) | with_reducible refine below_drewN ?_ _ | with_reducible refine Below.drew ?_ | with_reducible refine below_then ?_ (by with_reducible assumption)))) hh') (by first | omega | (simp; omega)) (by first | omega | (simp; omega))).mono ?_
  rintro e w0 ⟨rfl, b0⟩
  obtain ⟨hc0, hf0⟩ := bcell b0
  have hz0 := b0.size
  try simp at hz0
  have hv0 : w.heap.size < w0.heap.size := by omega
  have hx0 : w.heap.size + 1 < w0.heap.size := by omega
  go_wp2_with fail
  all_goals (go_ret; exact RetB.mk (by simp_all [eqB]) (by (repeat (first | with_reducible exact Below.refl _ _ | with_reducible assumption | with_reducible refine below_alloc ?_ _ | ((with_reducible refine Below.setCell ?_ ?_ _); rotate_left; (· first | exact Nat.le_refl _ | (simp; done) | (simp; omega))) | with_reducible refine below_drewN ?_ _ | with_reducible refine Below.drew ?_ | with_reducible refine below_then ?_ (by with_reducible assumption)))))
theorem lawsSzProg (w : World) (lo hi : Nat) (A0 : Option Addr) (n0 c0 : Nat) (s0 : List Func) (h0 : Sl FuncR w lo hi A0 n0 c0 s0) (hh : hi ≤ w.heap.size) (left : Int) (h1 : 0 ≤ left) (h2 : left ≤ 1048576) :
    Calls Try.prog 40 #[.agg #[.slice A0 n0 c0], .int .i64 left] w (RetSz left ((mszLFunc s0 : Nat) : Int) w) := by
  go_enter Try.func40, Try.ntmps40
  go_wp2_with fail
  refine (lawsSzFuncS _ lo hi n0 c0 A0 s0 (h0.below (B := w.heap.size) (by (repeat (first | with_reducible exact Below.refl _ _ | with_reducible assumption | with_reducible refine below_alloc ?_ _ | ((with_reducible refine Below.setCell ?_ ?_ _); rotate_left; (· first | exact Nat.le_refl _ | (simp; done) | (simp; omega))) | with_reducible refine below_drewN ?_ _ | with_reducible refine Below.drew ?_ | with_reducible refine below_then ?_ (by with_reducible assumption)))) hh) (by first | omega | (simp; omega)) left (by omega) (by omega)).mono ?_
  rintro e w0 ⟨r0, rfl, hr0, b0⟩
  obtain ⟨hc0, hf0⟩ := bcell b0
  have hz0 := b0.size
  try simp at hz0
  have hv0 : w.heap.size < w0.heap.size := by omega
  rcases hr0 with rfl | ⟨q0, t0⟩
  · go_wp2_with fail
    go_ret
    exact ⟨_, rfl, Or.inl rfl, by (repeat (first | with_reducible exact Below.refl _ _ | with_reducible assumption | with_reducible refine below_alloc ?_ _ | ((with_reducible refine Below.setCell ?_ ?_ _); rotate_left; (· first | exact Nat.le_refl _ | (simp; done) | (simp; omega))) | with_reducible refine below_drewN ?_ _ | with_reducible refine Below.drew ?_ | with_reducible refine below_then ?_ (by with_reducible assumption)))⟩
  have v0 := Lib.hid t0
  clear t0
  have u0 : r0 ≤ 1048576 := by have := v0.out; omega
  go_wp2_with fail
  go_ret
  exact ⟨_, rfl, Or.inr ⟨by omega, by have := v0.out; omega⟩, by (repeat (first | with_reducible exact Below.refl _ _ | with_reducible assumption | with_reducible refine below_alloc ?_ _ | ((with_reducible refine Below.setCell ?_ ?_ _); rotate_left; (· first | exact Nat.le_refl _ | (simp; done) | (simp; omega))) | with_reducible refine below_drewN ?_ _ | with_reducible refine Below.drew ?_ | with_reducible refine below_then ?_ (by with_reducible assumption)))⟩
end Go.Proofs.Ytgagbbhnifkclaa
