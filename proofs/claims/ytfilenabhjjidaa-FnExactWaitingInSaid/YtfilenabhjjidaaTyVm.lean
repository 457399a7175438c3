/- Vm: how it lies in cells; the laws' own helpers over it. Printed by typegen.py. Walks. -/
import Derived.Test.YtfilenabhjjidaaUtil
import Derived.Test.YtfilenabhjjidaaLawKit
import Derived.Test.YtfilenabhjjidaaTyFrame
import Derived.Test.YtfilenabhjjidaaInts
import Derived.Test.YtfilenabhjjidaaNotes
import Derived.Deep.RegionHeld3
set_option linter.unusedVariables false
set_option linter.unusedSimpArgs false
set_option maxRecDepth 100000
namespace Go.Proofs.Ytfilenabhjjidaa
open Go.RowKit

abbrev Vm := List Frame × List Int × Int × Int × Int × Int × List Note
def VmR : Rp Vm := pairR (sliceR 127 FrameR) (pairR (sliceR 3 intR) (pairR intR (pairR intR (pairR intR (pairR intR (sliceR 112 noteR))))))
def mszVm (x : Vm) : Nat := mszLFrame x.1 + (x.2.1).length + (x.2.2.2.2.2.2).length
def mszLVm (l : List Vm) : Nat := l.length + (l.map mszVm).sum
theorem mszVm_at {l : List Vm} {k : Nat} (hk : k < l.length) : mszVm l[k] ≤ mszLVm l := by have := mem_sum_le (f := mszVm) (List.getElem_mem hk); unfold mszLVm; omega
theorem mszLVm_len (l : List Vm) : l.length ≤ mszLVm l := by unfold mszLVm; omega
theorem Vm_rel {w : World} {lo hi : Nat} {cs : List Value} {x : Vm} (h : VmR.rel w lo hi cs x) : ∃ A0 n0 c0 s0 A1 n1 c1 s1 x2 x3 x4 x5 A6 n6 c6 s6, cs = ([.slice A0 n0 c0, .slice A1 n1 c1, .int .i64 x2, .int .i64 x3, .int .i64 x4, .int .i64 x5, .slice A6 n6 c6] : List Value) ∧ x = (s0, s1, x2, x3, x4, x5, s6) ∧ Sl FrameR w lo hi A0 n0 c0 s0 ∧ Sl intR w lo hi A1 n1 c1 s1 ∧ I64 x2 ∧ I64 x3 ∧ I64 x4 ∧ I64 x5 ∧ Sl noteR w lo hi A6 n6 c6 s6 := by
  obtain ⟨_, _, rfl, ⟨A0, n0, c0, rfl, h0⟩, _, _, rfl, ⟨A1, n1, c1, rfl, h1⟩, _, _, rfl, ⟨rfl, i2⟩, _, _, rfl, ⟨rfl, i3⟩, _, _, rfl, ⟨rfl, i4⟩, _, _, rfl, ⟨rfl, i5⟩, ⟨A6, n6, c6, rfl, h6⟩⟩ := h
  exact ⟨A0, n0, c0, x.1, A1, n1, c1, x.2.1, x.2.2.1, x.2.2.2.1, x.2.2.2.2.1, x.2.2.2.2.2.1, A6, n6, c6, x.2.2.2.2.2.2, rfl, rfl, h0, h1, i2, i3, i4, i5, h6⟩
theorem Vm_own {w : World} {A0 : Option Addr} {n0 c0 : Nat} {s0 : List Frame} {A1 : Option Addr} {n1 c1 : Nat} {s1 : List Int} {x2 : Int} {x3 : Int} {x4 : Int} {x5 : Int} {A6 : Option Addr} {n6 c6 : Nat} {s6 : List Note} {F0 : List Nat} (o0 : OwnSl FrameR w 127 F0 (.slice A0 n0 c0) s0) {F1 : List Nat} (o1 : OwnSl intR w 3 F1 (.slice A1 n1 c1) s1) {F6 : List Nat} (o6 : OwnSl noteR w 112 F6 (.slice A6 n6 c6) s6) (i2 : I64 x2) (i3 : I64 x3) (i4 : I64 x4) (i5 : I64 x5) (hF : ((F0 ++ (F1 ++ F6))).Nodup) : VmR.own w ((F0 ++ (F1 ++ F6))) [.slice A0 n0 c0, .slice A1 n1 c1, .int .i64 x2, .int .i64 x3, .int .i64 x4, .int .i64 x5, .slice A6 n6 c6] (s0, s1, x2, x3, x4, x5, s6) := by
  have hF2 := hF; simp only [List.nodup_append] at hF2
  exact ⟨[_], [_, _, _, _, _, _], F0, (F1 ++ F6), rfl, by simp, ⟨A0, n0, c0, rfl, o0⟩, ⟨[_], [_, _, _, _, _], F1, F6, rfl, by simp, ⟨A1, n1, c1, rfl, o1⟩, ⟨[_], [_, _, _, _], [], F6, rfl, by simp, ⟨rfl, rfl, i2⟩, ⟨[_], [_, _, _], [], F6, rfl, by simp, ⟨rfl, rfl, i3⟩, ⟨[_], [_, _], [], F6, rfl, by simp, ⟨rfl, rfl, i4⟩, ⟨[_], [_], [], F6, rfl, by simp, ⟨rfl, rfl, i5⟩, ⟨A6, n6, c6, rfl, o6⟩, by simp_all [List.nodup_append]⟩, by simp_all [List.nodup_append]⟩, by simp_all [List.nodup_append]⟩, by simp_all [List.nodup_append]⟩, by simp_all [List.nodup_append]⟩, by simp_all [List.nodup_append]⟩
theorem Vm_sl0 {w : World} {F : List Nat} {A0 : Option Addr} {n0 c0 : Nat} {s0 : List Frame} {A1 : Option Addr} {n1 c1 : Nat} {s1 : List Int} {x2 : Int} {x3 : Int} {x4 : Int} {x5 : Int} {A6 : Option Addr} {n6 c6 : Nat} {s6 : List Note} (h : VmR.own w F [.slice A0 n0 c0, .slice A1 n1 c1, .int .i64 x2, .int .i64 x3, .int .i64 x4, .int .i64 x5, .slice A6 n6 c6] (s0, s1, x2, x3, x4, x5, s6)) : Sl FrameR w 0 w.heap.size A0 n0 c0 s0 := by
  have hr := VmR.ownRel h (fun k hk => ⟨Nat.zero_le k, VmR.ownLt h k hk⟩)
  obtain ⟨A0q, n0q, c0q, s0q, A1q, n1q, c1q, s1q, x2q, x3q, x4q, x5q, A6q, n6q, c6q, s6q, e, hx, h0, h1, i2, i3, i4, i5, h6⟩ := Vm_rel hr
  simp only [List.cons.injEq, Value.slice.injEq, Value.int.injEq, Value.bool.injEq, and_true, true_and, Prod.mk.injEq] at e hx
  simp only [e, hx]; exact h0
theorem Vm_sl1 {w : World} {F : List Nat} {A0 : Option Addr} {n0 c0 : Nat} {s0 : List Frame} {A1 : Option Addr} {n1 c1 : Nat} {s1 : List Int} {x2 : Int} {x3 : Int} {x4 : Int} {x5 : Int} {A6 : Option Addr} {n6 c6 : Nat} {s6 : List Note} (h : VmR.own w F [.slice A0 n0 c0, .slice A1 n1 c1, .int .i64 x2, .int .i64 x3, .int .i64 x4, .int .i64 x5, .slice A6 n6 c6] (s0, s1, x2, x3, x4, x5, s6)) : Sl intR w 0 w.heap.size A1 n1 c1 s1 := by
  have hr := VmR.ownRel h (fun k hk => ⟨Nat.zero_le k, VmR.ownLt h k hk⟩)
  obtain ⟨A0q, n0q, c0q, s0q, A1q, n1q, c1q, s1q, x2q, x3q, x4q, x5q, A6q, n6q, c6q, s6q, e, hx, h0, h1, i2, i3, i4, i5, h6⟩ := Vm_rel hr
  simp only [List.cons.injEq, Value.slice.injEq, Value.int.injEq, Value.bool.injEq, and_true, true_and, Prod.mk.injEq] at e hx
  simp only [e, hx]; exact h1
theorem Vm_sl6 {w : World} {F : List Nat} {A0 : Option Addr} {n0 c0 : Nat} {s0 : List Frame} {A1 : Option Addr} {n1 c1 : Nat} {s1 : List Int} {x2 : Int} {x3 : Int} {x4 : Int} {x5 : Int} {A6 : Option Addr} {n6 c6 : Nat} {s6 : List Note} (h : VmR.own w F [.slice A0 n0 c0, .slice A1 n1 c1, .int .i64 x2, .int .i64 x3, .int .i64 x4, .int .i64 x5, .slice A6 n6 c6] (s0, s1, x2, x3, x4, x5, s6)) : Sl noteR w 0 w.heap.size A6 n6 c6 s6 := by
  have hr := VmR.ownRel h (fun k hk => ⟨Nat.zero_le k, VmR.ownLt h k hk⟩)
  obtain ⟨A0q, n0q, c0q, s0q, A1q, n1q, c1q, s1q, x2q, x3q, x4q, x5q, A6q, n6q, c6q, s6q, e, hx, h0, h1, i2, i3, i4, i5, h6⟩ := Vm_rel hr
  simp only [List.cons.injEq, Value.slice.injEq, Value.int.injEq, Value.bool.injEq, and_true, true_and, Prod.mk.injEq] at e hx
  simp only [e, hx]; exact h6
theorem Vm_at {w : World} {lo hi : Nat} {A : Option Addr} {n c k : Nat} {l : List Vm} (h : Sl VmR w lo hi A n c l) (hk : k < n) :
    ∃ b off A0 n0 c0 s0 A1 n1 c1 s1 x2 x3 x4 x5 A6 n6 c6 s6, A = some ⟨b, off, none⟩ ∧ lo ≤ b ∧ b < hi ∧ l[k]'(by have := h.1; omega) = (s0, s1, x2, x3, x4, x5, s6) ∧ Sl FrameR w lo hi A0 n0 c0 s0 ∧ Sl intR w lo hi A1 n1 c1 s1 ∧ I64 x2 ∧ I64 x3 ∧ I64 x4 ∧ I64 x5 ∧ Sl noteR w lo hi A6 n6 c6 s6 ∧ w.cell? ⟨b, off + k * 7, none⟩ = some (.slice A0 n0 c0) ∧ w.cell? ⟨b, off + k * 7 + 1, none⟩ = some (.slice A1 n1 c1) ∧ w.cell? ⟨b, off + k * 7 + 2, none⟩ = some (.int .i64 x2) ∧ w.cell? ⟨b, off + k * 7 + 3, none⟩ = some (.int .i64 x3) ∧ w.cell? ⟨b, off + k * 7 + 4, none⟩ = some (.int .i64 x4) ∧ w.cell? ⟨b, off + k * 7 + 5, none⟩ = some (.int .i64 x5) ∧ w.cell? ⟨b, off + k * 7 + 6, none⟩ = some (.slice A6 n6 c6) := by
  obtain ⟨b, off, cs, rfl, hb1, hb2, hr, hc⟩ := h.at_ hk
  obtain ⟨A0, n0, c0, s0, A1, n1, c1, s1, x2, x3, x4, x5, A6, n6, c6, s6, rfl, hx, h0, h1, i2, i3, i4, i5, h6⟩ := Vm_rel hr
  exact ⟨b, off, A0, n0, c0, s0, A1, n1, c1, s1, x2, x3, x4, x5, A6, n6, c6, s6, rfl, hb1, hb2, hx, h0, h1, i2, i3, i4, i5, h6, hc 0 (by simp), hc 1 (by simp), hc 2 (by simp), hc 3 (by simp), hc 4 (by simp), hc 5 (by simp), hc 6 (by simp)⟩
theorem rdVm : Rd Try.prog 36 VmR := rd_struct Try.underlying36 (by kernel_rfl) (rdF_cons rfl (by kernel_rfl) rdFrames (rdF_cons rfl (by kernel_rfl) rdInts (rdF_cons rfl (by kernel_rfl) (rd_int Try.underlying3) (rdF_cons rfl (by kernel_rfl) (rd_int Try.underlying3) (rdF_cons rfl (by kernel_rfl) (rd_int Try.underlying3) (rdF_cons rfl (by kernel_rfl) (rd_int Try.underlying3) (rdF_one rfl (by kernel_rfl) rdNotes) (by decide)) (by decide)) (by decide)) (by decide)) (by decide)) (by decide))
def RetToVm (s0 : List Frame) (s1 : List Int) (x2 : Int) (x3 : Int) (x4 : Int) (x5 : Int) (s6 : List Note) (w : World) (e : Ending) (w' : World) : Prop :=
  ∃ F A0 n0 c0 A1 n1 c1 A6 n6 c6, e = .returned (.agg #[.slice A0 n0 c0, .slice A1 n1 c1, .int .i64 x2, .int .i64 x3, .int .i64 x4, .int .i64 x5, .slice A6 n6 c6]) ∧ VmR.own w' F [.slice A0 n0 c0, .slice A1 n1 c1, .int .i64 x2, .int .i64 x3, .int .i64 x4, .int .i64 x5, .slice A6 n6 c6] (s0, s1, x2, x3, x4, x5, s6) ∧ (∀ k, k ∈ F → w.heap.size ≤ k) ∧ Below w.heap.size w w'
theorem lawsToVm (w : World) (lo hi : Nat) (A0 : Option Addr) (n0 c0 : Nat) (s0 : List Frame) (A1 : Option Addr) (n1 c1 : Nat) (s1 : List Int) (x2 : Int) (x3 : Int) (x4 : Int) (x5 : Int) (A6 : Option Addr) (n6 c6 : Nat) (s6 : List Note) (h0 : Sl FrameR w lo hi A0 n0 c0 s0) (h1 : Sl intR w lo hi A1 n1 c1 s1) (h6 : Sl noteR w lo hi A6 n6 c6 s6) (hh : hi ≤ w.heap.size) (m0 : mszLFrame s0 ≤ 1048576) (m1 : s1.length ≤ 1048576) (m6 : s6.length ≤ 1048576) (i2 : I64 x2) (i3 : I64 x3) (i4 : I64 x4) (i5 : I64 x5) :
    Calls Try.prog 23 #[.agg #[.slice A0 n0 c0, .slice A1 n1 c1, .int .i64 x2, .int .i64 x3, .int .i64 x4, .int .i64 x5, .slice A6 n6 c6]] w (RetToVm s0 s1 x2 x3 x4 x5 s6 w) := by
  go_enter Try.func23, Try.ntmps23
  go_wp2_with fail
  refine (lawsToFrameS _ lo hi n0 c0 A0 s0 (h0.below (B := w.heap.size) (by (repeat (first | with_reducible exact Below.refl _ _ | with_reducible assumption | with_reducible refine below_alloc ?_ _ | ((with_reducible refine Below.setCell ?_ ?_ _); rotate_left; (· first | exact Nat.le_refl _ | (simp; done) | (simp; omega))) | with_reducible refine below_drewN ?_ _ | with_reducible refine Below.drew ?_ | with_reducible refine below_then ?_ (by with_reducible assumption)))) hh) (by first | omega | (simp; omega)) m0).mono ?_
  rintro e w0 ⟨F0, A0', n0', c0', rfl, o0, f0, b0⟩
  obtain ⟨hc0, hf0⟩ := bcell b0
  have hz0 := b0.size
  try simp at hz0
  have hv0 : w.heap.size < w0.heap.size := by omega
  have hx0 : w.heap.size + 1 < w0.heap.size := by omega
  have hy0 : w.heap.size + 1 + 1 < w0.heap.size := by omega
  have g0 : ∀ k, k ∈ F0 → w.heap.size + 3 ≤ k := fun k hk => by have := f0 k hk; simp at this; omega
  have l0 := o0.lt
  go_wp2_with fail
  refine (lawsToIntS _ lo hi n1 c1 A1 s1 (h1.below (B := w.heap.size) (by (repeat (first | with_reducible exact Below.refl _ _ | with_reducible assumption | with_reducible refine below_alloc ?_ _ | ((with_reducible refine Below.setCell ?_ ?_ _); rotate_left; (· first | exact Nat.le_refl _ | (simp; done) | (simp; omega))) | with_reducible refine below_drewN ?_ _ | with_reducible refine Below.drew ?_ | with_reducible refine below_then ?_ (by with_reducible assumption)))) hh) (by first | omega | (simp; omega)) (by have := h1.lenEq; omega)).mono ?_
  rintro e w1 ⟨F1, A1', n1', c1', rfl, o1, f1, b1⟩
  obtain ⟨hc1, hf1⟩ := bcell b1
  have hz1 := b1.size
  try simp at hz1
  have hv1 : w.heap.size < w1.heap.size := by omega
  have hx1 : w.heap.size + 1 < w1.heap.size := by omega
  have hy1 : w.heap.size + 1 + 1 < w1.heap.size := by omega
  have g1 : ∀ k, k ∈ F1 → w0.heap.size ≤ k := fun k hk => by have := f1 k hk; simp at this; omega
  have l1 := o1.lt
  go_wp2_with fail
  refine (lawsToNoteS _ lo hi n6 c6 A6 s6 (h6.below (B := w.heap.size) (by (repeat (first | with_reducible exact Below.refl _ _ | with_reducible assumption | with_reducible refine below_alloc ?_ _ | ((with_reducible refine Below.setCell ?_ ?_ _); rotate_left; (· first | exact Nat.le_refl _ | (simp; done) | (simp; omega))) | with_reducible refine below_drewN ?_ _ | with_reducible refine Below.drew ?_ | with_reducible refine below_then ?_ (by with_reducible assumption)))) hh) (by first | omega | (simp; omega)) (by have := h6.lenEq; omega)).mono ?_
  rintro e w6 ⟨F6, A6', n6', c6', rfl, o6, f6, b6⟩
  obtain ⟨hc6, hf6⟩ := bcell b6
  have hz6 := b6.size
  try simp at hz6
  have hv6 : w.heap.size < w6.heap.size := by omega
  have hx6 : w.heap.size + 1 < w6.heap.size := by omega
  have hy6 : w.heap.size + 1 + 1 < w6.heap.size := by omega
  have g6 : ∀ k, k ∈ F6 → w1.heap.size ≤ k := fun k hk => by have := f6 k hk; simp at this; omega
  have l6 := o6.lt
  go_wp2_with fail
  refine bodyPost_ret (v := .agg #[.slice A0' n0' c0', .slice A1' n1' c1', .int .i64 x2, .int .i64 x3, .int .i64 x4, .int .i64 x5, .slice A6' n6' c6']) (by simp [results, Try.results23, go_sem, hc0, hf0, hv0, hx0, hy0, hc1, hf1, hv1, hx1, hy1, hc6, hf6, hv6, hx6, hy6]) rfl ?_
  have k0 := fun (W : World) (hW : Fr [w.heap.size, w.heap.size + 1, w.heap.size + 1 + 1] w0 W) => o0.fr hW (fun k hk hk' => by have := g0 k hk; simp at hk'; omega)
  have k1 := fun (W : World) (hW : Fr [w.heap.size, w.heap.size + 1, w.heap.size + 1 + 1] w1 W) => o1.fr hW (fun k hk hk' => by have := g1 k hk; simp at hk'; omega)
  have k6 := fun (W : World) (hW : Fr [w.heap.size, w.heap.size + 1, w.heap.size + 1 + 1] w6 W) => o6.fr hW (fun k hk hk' => by have := g6 k hk; simp at hk'; omega)
  exact ⟨_, A0', n0', c0', A1', n1', c1', A6', n6', c6', rfl, Vm_own (k0 _ (by (repeat (first | with_reducible exact Fr.refl _ _ | with_reducible assumption | ((with_reducible refine Fr.setCell ?_ ?_ _); rotate_left; (· first | (simp; done) | assumption | (simp; assumption))) | with_reducible refine Fr.drewN ?_ _ | with_reducible refine Fr.drew ?_ | with_reducible refine Fr.alloc ?_ _ | with_reducible refine Fr.trans ?_ (Fr.of_below (by with_reducible assumption)))))) (k1 _ (by (repeat (first | with_reducible exact Fr.refl _ _ | with_reducible assumption | ((with_reducible refine Fr.setCell ?_ ?_ _); rotate_left; (· first | (simp; done) | assumption | (simp; assumption))) | with_reducible refine Fr.drewN ?_ _ | with_reducible refine Fr.drew ?_ | with_reducible refine Fr.alloc ?_ _ | with_reducible refine Fr.trans ?_ (Fr.of_below (by with_reducible assumption)))))) (k6 _ (by (repeat (first | with_reducible exact Fr.refl _ _ | with_reducible assumption | ((with_reducible refine Fr.setCell ?_ ?_ _); rotate_left; (· first | (simp; done) | assumption | (simp; assumption))) | with_reducible refine Fr.drewN ?_ _ | with_reducible refine Fr.drew ?_ | with_reducible refine Fr.alloc ?_ _ | with_reducible refine Fr.trans ?_ (Fr.of_below (by with_reducible assumption)))))) i2 i3 i4 i5 (nodup_app o0.nodup (nodup_app o1.nodup o6.nodup l1 (fun k hk => by have := g6 k hk; omega)) l0 (fun k hk => by (simp only [List.mem_append] at hk; rcases hk with hk | hk; all_goals first | (have := g1 k hk; omega) | (have := g6 k hk; omega)))), fun k hk => by (simp only [List.mem_append] at hk; rcases hk with hk | hk | hk; all_goals first | (have := g0 k hk; omega) | (have := g1 k hk; omega) | (have := g6 k hk; omega)), by (repeat (first | with_reducible exact Below.refl _ _ | with_reducible assumption | with_reducible refine below_alloc ?_ _ | ((with_reducible refine Below.setCell ?_ ?_ _); rotate_left; (· first | exact Nat.le_refl _ | (simp; done) | (simp; omega))) | with_reducible refine below_drewN ?_ _ | with_reducible refine Below.drew ?_ | with_reducible refine below_then ?_ (by with_reducible assumption)))⟩
theorem lawsEqVm (w : World) (lo hi lo' hi' : Nat) (A0 : Option Addr) (n0 c0 : Nat) (s0 : List Frame) (A1 : Option Addr) (n1 c1 : Nat) (s1 : List Int) (x2 : Int) (x3 : Int) (x4 : Int) (x5 : Int) (A6 : Option Addr) (n6 c6 : Nat) (s6 : List Note) (A0' : Option Addr) (n0' c0' : Nat) (s0' : List Frame) (A1' : Option Addr) (n1' c1' : Nat) (s1' : List Int) (x2' : Int) (x3' : Int) (x4' : Int) (x5' : Int) (A6' : Option Addr) (n6' c6' : Nat) (s6' : List Note) (h0 : Sl FrameR w lo hi A0 n0 c0 s0) (h1 : Sl intR w lo hi A1 n1 c1 s1) (h6 : Sl noteR w lo hi A6 n6 c6 s6) (h0' : Sl FrameR w lo' hi' A0' n0' c0' s0') (h1' : Sl intR w lo' hi' A1' n1' c1' s1') (h6' : Sl noteR w lo' hi' A6' n6' c6' s6') (hh : hi ≤ w.heap.size) (hh' : hi' ≤ w.heap.size) :
    Calls Try.prog 26 #[.agg #[.slice A0 n0 c0, .slice A1 n1 c1, .int .i64 x2, .int .i64 x3, .int .i64 x4, .int .i64 x5, .slice A6 n6 c6], .agg #[.slice A0' n0' c0', .slice A1' n1' c1', .int .i64 x2', .int .i64 x3', .int .i64 x4', .int .i64 x5', .slice A6' n6' c6']] w (RetB (eqB (s0, s1, x2, x3, x4, x5, s6) (s0', s1', x2', x3', x4', x5', s6')) w) := by
  go_enter Try.func26, Try.ntmps26
  go_wp2_with fail
  all_goals try (go_ret; exact RetB.mk (by simp_all [eqB]) (by (repeat (first | with_reducible exact Below.refl _ _ | with_reducible assumption | with_reducible refine below_alloc ?_ _ | ((with_reducible refine Below.setCell ?_ ?_ _); rotate_left; (· first | exact Nat.le_refl _ | (simp; done) | (simp; omega))) | with_reducible refine below_drewN ?_ _ | with_reducible refine Below.drew ?_ | with_reducible refine below_then ?_ (by with_reducible assumption)))))
  refine (lawsEqFrameS _ lo hi lo' hi' n0 n0' c0 c0' A0 A0' s0 s0' (h0.below (B := w.heap.size) (by (repeat (first | with_reducible exact Below.refl _ _ | with_reducible assumption | with_reducible refine below_alloc ?_ _ | ((with_reducible refine Below.setCell ?_ ?_ _); rotate_left; (· first | exact Nat.le_refl _ | (simp; done) | (simp; omega))) | with_reducible refine below_drewN ?_ _ | with_reducible refine Below.drew ?_ | with_reducible refine below_then ?_ (by with_reducible assumption)))) hh) (h0'.below (B := w.heap.size) (by (repeat (first | with_reducible exact Below.refl _ _ | with_reducible assumption | with_reducible refine below_alloc ?_ _ | ((with_reducible refine Below.setCell ?_ ?_ _); rotate_left; (· first | exact Nat.le_refl _ | (simp; done) | (simp; omega))) | with_reducible refine below_drewN ?_ _ | with_reducible refine Below.drew ?_ | with_reducible refine below_then ?_ (by with_reducible assumption)))) hh') (by first | omega | (simp; omega)) (by first | omega | (simp; omega))).mono ?_
  rintro e w0 ⟨rfl, b0⟩
  obtain ⟨hc0, hf0⟩ := bcell b0
  have hz0 := b0.size
  try simp at hz0
  have hv0 : w.heap.size < w0.heap.size := by omega
  have hx0 : w.heap.size + 1 < w0.heap.size := by omega
  go_wp2_with fail
  all_goals try (go_ret; exact RetB.mk (by simp_all [eqB]) (by (repeat (first | with_reducible exact Below.refl _ _ | with_reducible assumption | with_reducible refine below_alloc ?_ _ | ((with_reducible refine Below.setCell ?_ ?_ _); rotate_left; (· first | exact Nat.le_refl _ | (simp; done) | (simp; omega))) | with_reducible refine below_drewN ?_ _ | with_reducible refine Below.drew ?_ | with_reducible refine below_then ?_ (by with_reducible assumption)))))
  refine (lawsEqIntS _ lo hi lo' hi' n1 n1' c1 c1' A1 A1' s1 s1' (h1.below (B := w.heap.size) (by (repeat (first | with_reducible exact Below.refl _ _ | with_reducible assumption | with_reducible refine below_alloc ?_ _ | ((with_reducible refine Below.setCell ?_ ?_ _); rotate_left; (· first | exact Nat.le_refl _ | (simp; done) | (simp; omega))) | with_reducible refine below_drewN ?_ _ | with_reducible refine Below.drew ?_ | with_reducible refine below_then ?_ (by with_reducible assumption)))) hh) (h1'.below (B := w.heap.size) (by (repeat (first | with_reducible exact Below.refl _ _ | with_reducible assumption | with_reducible refine below_alloc ?_ _ | ((with_reducible refine Below.setCell ?_ ?_ _); rotate_left; (· first | exact Nat.le_refl _ | (simp; done) | (simp; omega))) | with_reducible refine below_drewN ?_ _ | with_reducible refine Below.drew ?_ | with_reducible refine below_then ?_ (by with_reducible assumption)))) hh') (by first | omega | (simp; omega)) (by first | omega | (simp; omega))).mono ?_
  rintro e w1 ⟨rfl, b1⟩
  obtain ⟨hc1, hf1⟩ := bcell b1
  have hz1 := b1.size
  try simp at hz1
  have hv1 : w.heap.size < w1.heap.size := by omega
  have hx1 : w.heap.size + 1 < w1.heap.size := by omega
  go_wp2_with fail
  all_goals try (go_ret; exact RetB.mk (by simp_all [eqB]) (by (repeat (first | with_reducible exact Below.refl _ _ | with_reducible assumption | with_reducible refine below_alloc ?_ _ | ((with_reducible refine Below.setCell ?_ ?_ _); rotate_left; (· first | exact Nat.le_refl _ | (simp; done) | (simp; omega))) | with_reducible refine below_drewN ?_ _ | with_reducible refine Below.drew ?_ | with_reducible refine below_then ?_ (by with_reducible assumption)))))
  refine (lawsEqNoteS _ lo hi lo' hi' n6 n6' c6 c6' A6 A6' s6 s6' (h6.below (B := w.heap.size) (by (repeat (first | with_reducible exact Below.refl _ _ | with_reducible assumption | with_reducible refine below_alloc ?_ _ | ((with_reducible refine Below.setCell ?_ ?_ _); rotate_left; (· first | exact Nat.le_refl _ | (simp; done) | (simp; omega))) | with_reducible refine below_drewN ?_ _ | with_reducible refine Below.drew ?_ | with_reducible refine below_then ?_ (by with_reducible assumption)))) hh) (h6'.below (B := w.heap.size) (by (repeat (first | with_reducible exact Below.refl _ _ | with_reducible assumption | with_reducible refine below_alloc ?_ _ | ((with_reducible refine Below.setCell ?_ ?_ _); rotate_left; (· first | exact Nat.le_refl _ | (simp; done) | (simp; omega))) | with_reducible refine below_drewN ?_ _ | with_reducible refine Below.drew ?_ | with_reducible refine below_then ?_ (by with_reducible assumption)))) hh') (by first | omega | (simp; omega)) (by first | omega | (simp; omega))).mono ?_
  rintro e w6 ⟨rfl, b6⟩
  obtain ⟨hc6, hf6⟩ := bcell b6
  have hz6 := b6.size
  try simp at hz6
  have hv6 : w.heap.size < w6.heap.size := by omega
  have hx6 : w.heap.size + 1 < w6.heap.size := by omega
  go_wp2_with fail
  all_goals (go_ret; exact RetB.mk (by simp_all [eqB]) (by (repeat (first | with_reducible exact Below.refl _ _ | with_reducible assumption | with_reducible refine below_alloc ?_ _ | ((with_reducible refine Below.setCell ?_ ?_ _); rotate_left; (· first | exact Nat.le_refl _ | (simp; done) | (simp; omega))) | with_reducible refine below_drewN ?_ _ | with_reducible refine Below.drew ?_ | with_reducible refine below_then ?_ (by with_reducible assumption)))))
theorem lawsSzVm (w : World) (lo hi : Nat) (A0 : Option Addr) (n0 c0 : Nat) (s0 : List Frame) (A1 : Option Addr) (n1 c1 : Nat) (s1 : List Int) (x2 : Int) (x3 : Int) (x4 : Int) (x5 : Int) (A6 : Option Addr) (n6 c6 : Nat) (s6 : List Note) (h0 : Sl FrameR w lo hi A0 n0 c0 s0) (hA1 : Sl intR w lo hi A1 n1 c1 s1) (h6 : Sl noteR w lo hi A6 n6 c6 s6) (hh : hi ≤ w.heap.size) (left : Int) (h1 : 0 ≤ left) (h2 : left ≤ 1048576) :
    Calls Try.prog 21 #[.agg #[.slice A0 n0 c0, .slice A1 n1 c1, .int .i64 x2, .int .i64 x3, .int .i64 x4, .int .i64 x5, .slice A6 n6 c6], .int .i64 left] w (RetSz left ((mszLFrame s0 + s1.length + s6.length : Nat) : Int) w) := by
  go_enter Try.func21, Try.ntmps21
  go_wp2_with fail
  refine (lawsSzFrameS _ lo hi n0 c0 A0 s0 (h0.below (B := w.heap.size) (by (repeat (first | with_reducible exact Below.refl _ _ | with_reducible assumption | with_reducible refine below_alloc ?_ _ | ((with_reducible refine Below.setCell ?_ ?_ _); rotate_left; (· first | exact Nat.le_refl _ | (simp; done) | (simp; omega))) | with_reducible refine below_drewN ?_ _ | with_reducible refine Below.drew ?_ | with_reducible refine below_then ?_ (by with_reducible assumption)))) hh) (by first | omega | (simp; omega)) left (by omega) (by omega)).mono ?_
  rintro e w0 ⟨r0, rfl, hr0, b0⟩
  obtain ⟨hc0, hf0⟩ := bcell b0
  have hz0 := b0.size
  try simp at hz0
  have hv0 : w.heap.size < w0.heap.size := by omega
  rcases hr0 with rfl | ⟨q0, t0⟩
  · go_wp2_with fail
    go_ret
    exact ⟨_, rfl, Or.inl rfl, by (repeat (first | with_reducible exact Below.refl _ _ | with_reducible assumption | with_reducible refine below_alloc ?_ _ | ((with_reducible refine Below.setCell ?_ ?_ _); rotate_left; (· first | exact Nat.le_refl _ | (simp; done) | (simp; omega))) | with_reducible refine below_drewN ?_ _ | with_reducible refine Below.drew ?_ | with_reducible refine below_then ?_ (by with_reducible assumption)))⟩
  have v0 := Lib.hid t0
  clear t0
  have u0 : r0 ≤ 1048576 := by have := v0.out; omega
  go_wp2_with fail
  have j1 := hA1.lenEq
  refine (lawsSzIntS _ n1 c1 A1 r0 (by omega) (by omega) hA1.lenLe).mono ?_
  rintro e w1 ⟨r1, rfl, hr1, b1⟩
  obtain ⟨hc1, hf1⟩ := bcell b1
  have hz1 := b1.size
  try simp at hz1
  have hv1 : w.heap.size < w1.heap.size := by omega
  rcases hr1 with rfl | ⟨q1, t1⟩
  · go_wp2_with fail
    go_ret
    exact ⟨_, rfl, Or.inl rfl, by (repeat (first | with_reducible exact Below.refl _ _ | with_reducible assumption | with_reducible refine below_alloc ?_ _ | ((with_reducible refine Below.setCell ?_ ?_ _); rotate_left; (· first | exact Nat.le_refl _ | (simp; done) | (simp; omega))) | with_reducible refine below_drewN ?_ _ | with_reducible refine Below.drew ?_ | with_reducible refine below_then ?_ (by with_reducible assumption)))⟩
  have v1 := Lib.hid t1
  clear t1
  have u1 : r1 ≤ 1048576 := by have := v1.out; omega
  go_wp2_with fail
  have j6 := h6.lenEq
  refine (lawsSzNoteS _ n6 c6 A6 r1 (by omega) (by omega) h6.lenLe).mono ?_
  rintro e w6 ⟨r6, rfl, hr6, b6⟩
  obtain ⟨hc6, hf6⟩ := bcell b6
  have hz6 := b6.size
  try simp at hz6
  have hv6 : w.heap.size < w6.heap.size := by omega
  rcases hr6 with rfl | ⟨q6, t6⟩
  · go_wp2_with fail
    go_ret
    exact ⟨_, rfl, Or.inl rfl, by (repeat (first | with_reducible exact Below.refl _ _ | with_reducible assumption | with_reducible refine below_alloc ?_ _ | ((with_reducible refine Below.setCell ?_ ?_ _); rotate_left; (· first | exact Nat.le_refl _ | (simp; done) | (simp; omega))) | with_reducible refine below_drewN ?_ _ | with_reducible refine Below.drew ?_ | with_reducible refine below_then ?_ (by with_reducible assumption)))⟩
  have v6 := Lib.hid t6
  clear t6
  have u6 : r6 ≤ 1048576 := by have := v6.out; omega
  go_wp2_with fail
  go_ret
  exact ⟨_, rfl, Or.inr ⟨by omega, by have := v0.out; have := v1.out; have := v6.out; omega⟩, by (repeat (first | with_reducible exact Below.refl _ _ | with_reducible assumption | with_reducible refine below_alloc ?_ _ | ((with_reducible refine Below.setCell ?_ ?_ _); rotate_left; (· first | exact Nat.le_refl _ | (simp; done) | (simp; omega))) | with_reducible refine below_drewN ?_ _ | with_reducible refine Below.drew ?_ | with_reducible refine below_then ?_ (by with_reducible assumption)))⟩
end Go.Proofs.Ytfilenabhjjidaa
