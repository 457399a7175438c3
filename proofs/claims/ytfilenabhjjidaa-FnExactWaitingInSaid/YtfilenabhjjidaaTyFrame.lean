/- Frame: how it lies in cells; the laws' own helpers over it. Printed by typegen.py. Walks. -/
import Derived.Test.YtfilenabhjjidaaUtil
import Derived.Test.YtfilenabhjjidaaLawKit
import Derived.Test.YtfilenabhjjidaaInts
import Derived.Test.YtfilenabhjjidaaBools
import Derived.Deep.RegionHeld3
set_option linter.unusedVariables false
set_option linter.unusedSimpArgs false
set_option maxRecDepth 100000
namespace Go.Proofs.Ytfilenabhjjidaa
open Go.RowKit

abbrev Frame := Int × Int × Int × List Int × List Int × List Bool × Int × Int × Int × Int × Bool
def FrameR : Rp Frame := pairR intR (pairR intR (pairR intR (pairR (sliceR 3 intR) (pairR (sliceR 3 intR) (pairR (sliceR 4 boolR) (pairR intR (pairR intR (pairR intR (pairR intR (boolR))))))))))
def mszFrame (x : Frame) : Nat := (x.2.2.2.1).length + (x.2.2.2.2.1).length + (x.2.2.2.2.2.1).length
def mszLFrame (l : List Frame) : Nat := l.length + (l.map mszFrame).sum
theorem mszFrame_at {l : List Frame} {k : Nat} (hk : k < l.length) : mszFrame l[k] ≤ mszLFrame l := by have := mem_sum_le (f := mszFrame) (List.getElem_mem hk); unfold mszLFrame; omega
theorem mszLFrame_len (l : List Frame) : l.length ≤ mszLFrame l := by unfold mszLFrame; omega
theorem Frame_rel {w : World} {lo hi : Nat} {cs : List Value} {x : Frame} (h : FrameR.rel w lo hi cs x) : ∃ x0 x1 x2 A3 n3 c3 s3 A4 n4 c4 s4 A5 n5 c5 s5 x6 x7 x8 x9 y10, cs = ([.int .i64 x0, .int .i64 x1, .int .i64 x2, .slice A3 n3 c3, .slice A4 n4 c4, .slice A5 n5 c5, .int .i64 x6, .int .i64 x7, .int .i64 x8, .int .i64 x9, .bool y10] : List Value) ∧ x = (x0, x1, x2, s3, s4, s5, x6, x7, x8, x9, y10) ∧ I64 x0 ∧ I64 x1 ∧ I64 x2 ∧ Sl intR w lo hi A3 n3 c3 s3 ∧ Sl intR w lo hi A4 n4 c4 s4 ∧ Sl boolR w lo hi A5 n5 c5 s5 ∧ I64 x6 ∧ I64 x7 ∧ I64 x8 ∧ I64 x9 := by
  obtain ⟨_, _, rfl, ⟨rfl, i0⟩, _, _, rfl, ⟨rfl, i1⟩, _, _, rfl, ⟨rfl, i2⟩, _, _, rfl, ⟨A3, n3, c3, rfl, h3⟩, _, _, rfl, ⟨A4, n4, c4, rfl, h4⟩, _, _, rfl, ⟨A5, n5, c5, rfl, h5⟩, _, _, rfl, ⟨rfl, i6⟩, _, _, rfl, ⟨rfl, i7⟩, _, _, rfl, ⟨rfl, i8⟩, _, _, rfl, ⟨rfl, i9⟩, ⟨rfl, _⟩⟩ := h
  exact ⟨x.1, x.2.1, x.2.2.1, A3, n3, c3, x.2.2.2.1, A4, n4, c4, x.2.2.2.2.1, A5, n5, c5, x.2.2.2.2.2.1, x.2.2.2.2.2.2.1, x.2.2.2.2.2.2.2.1, x.2.2.2.2.2.2.2.2.1, x.2.2.2.2.2.2.2.2.2.1, x.2.2.2.2.2.2.2.2.2.2, rfl, rfl, i0, i1, i2, h3, h4, h5, i6, i7, i8, i9⟩
theorem Frame_own {w : World} {x0 : Int} {x1 : Int} {x2 : Int} {A3 : Option Addr} {n3 c3 : Nat} {s3 : List Int} {A4 : Option Addr} {n4 c4 : Nat} {s4 : List Int} {A5 : Option Addr} {n5 c5 : Nat} {s5 : List Bool} {x6 : Int} {x7 : Int} {x8 : Int} {x9 : Int} {y10 : Bool} {F3 : List Nat} (o3 : OwnSl intR w 3 F3 (.slice A3 n3 c3) s3) {F4 : List Nat} (o4 : OwnSl intR w 3 F4 (.slice A4 n4 c4) s4) {F5 : List Nat} (o5 : OwnSl boolR w 4 F5 (.slice A5 n5 c5) s5) (i0 : I64 x0) (i1 : I64 x1) (i2 : I64 x2) (i6 : I64 x6) (i7 : I64 x7) (i8 : I64 x8) (i9 : I64 x9) (hF : ((F3 ++ (F4 ++ F5))).Nodup) : FrameR.own w ((F3 ++ (F4 ++ F5))) [.int .i64 x0, .int .i64 x1, .int .i64 x2, .slice A3 n3 c3, .slice A4 n4 c4, .slice A5 n5 c5, .int .i64 x6, .int .i64 x7, .int .i64 x8, .int .i64 x9, .bool y10] (x0, x1, x2, s3, s4, s5, x6, x7, x8, x9, y10) := by
  have hF2 := hF; simp only [List.nodup_append] at hF2
  exact ⟨[_], [_, _, _, _, _, _, _, _, _, _], [], (F3 ++ (F4 ++ F5)), rfl, by simp, ⟨rfl, rfl, i0⟩, ⟨[_], [_, _, _, _, _, _, _, _, _], [], (F3 ++ (F4 ++ F5)), rfl, by simp, ⟨rfl, rfl, i1⟩, ⟨[_], [_, _, _, _, _, _, _, _], [], (F3 ++ (F4 ++ F5)), rfl, by simp, ⟨rfl, rfl, i2⟩, ⟨[_], [_, _, _, _, _, _, _], F3, (F4 ++ F5), rfl, by simp, ⟨A3, n3, c3, rfl, o3⟩, ⟨[_], [_, _, _, _, _, _], F4, F5, rfl, by simp, ⟨A4, n4, c4, rfl, o4⟩, ⟨[_], [_, _, _, _, _], F5, [], rfl, by simp, ⟨A5, n5, c5, rfl, o5⟩, ⟨[_], [_, _, _, _], [], [], rfl, by simp, ⟨rfl, rfl, i6⟩, ⟨[_], [_, _, _], [], [], rfl, by simp, ⟨rfl, rfl, i7⟩, ⟨[_], [_, _], [], [], rfl, by simp, ⟨rfl, rfl, i8⟩, ⟨[_], [_], [], [], rfl, by simp, ⟨rfl, rfl, i9⟩, ⟨rfl, rfl, trivial⟩, by simp_all [List.nodup_append]⟩, by simp_all [List.nodup_append]⟩, by simp_all [List.nodup_append]⟩, by simp_all [List.nodup_append]⟩, by simp_all [List.nodup_append]⟩, by simp_all [List.nodup_append]⟩, by simp_all [List.nodup_append]⟩, by simp_all [List.nodup_append]⟩, by simp_all [List.nodup_append]⟩, by simp_all [List.nodup_append]⟩
theorem Frame_sl3 {w : World} {F : List Nat} {x0 : Int} {x1 : Int} {x2 : Int} {A3 : Option Addr} {n3 c3 : Nat} {s3 : List Int} {A4 : Option Addr} {n4 c4 : Nat} {s4 : List Int} {A5 : Option Addr} {n5 c5 : Nat} {s5 : List Bool} {x6 : Int} {x7 : Int} {x8 : Int} {x9 : Int} {y10 : Bool} (h : FrameR.own w F [.int .i64 x0, .int .i64 x1, .int .i64 x2, .slice A3 n3 c3, .slice A4 n4 c4, .slice A5 n5 c5, .int .i64 x6, .int .i64 x7, .int .i64 x8, .int .i64 x9, .bool y10] (x0, x1, x2, s3, s4, s5, x6, x7, x8, x9, y10)) : Sl intR w 0 w.heap.size A3 n3 c3 s3 := by
  have hr := FrameR.ownRel h (fun k hk => ⟨Nat.zero_le k, FrameR.ownLt h k hk⟩)
  obtain ⟨x0q, x1q, x2q, A3q, n3q, c3q, s3q, A4q, n4q, c4q, s4q, A5q, n5q, c5q, s5q, x6q, x7q, x8q, x9q, y10q, e, hx, i0, i1, i2, h3, h4, h5, i6, i7, i8, i9⟩ := Frame_rel hr
  simp only [List.cons.injEq, Value.slice.injEq, Value.int.injEq, Value.bool.injEq, and_true, true_and, Prod.mk.injEq] at e hx
  simp only [e, hx]; exact h3
theorem Frame_sl4 {w : World} {F : List Nat} {x0 : Int} {x1 : Int} {x2 : Int} {A3 : Option Addr} {n3 c3 : Nat} {s3 : List Int} {A4 : Option Addr} {n4 c4 : Nat} {s4 : List Int} {A5 : Option Addr} {n5 c5 : Nat} {s5 : List Bool} {x6 : Int} {x7 : Int} {x8 : Int} {x9 : Int} {y10 : Bool} (h : FrameR.own w F [.int .i64 x0, .int .i64 x1, .int .i64 x2, .slice A3 n3 c3, .slice A4 n4 c4, .slice A5 n5 c5, .int .i64 x6, .int .i64 x7, .int .i64 x8, .int .i64 x9, .bool y10] (x0, x1, x2, s3, s4, s5, x6, x7, x8, x9, y10)) : Sl intR w 0 w.heap.size A4 n4 c4 s4 := by
  have hr := FrameR.ownRel h (fun k hk => ⟨Nat.zero_le k, FrameR.ownLt h k hk⟩)
  obtain ⟨x0q, x1q, x2q, A3q, n3q, c3q, s3q, A4q, n4q, c4q, s4q, A5q, n5q, c5q, s5q, x6q, x7q, x8q, x9q, y10q, e, hx, i0, i1, i2, h3, h4, h5, i6, i7, i8, i9⟩ := Frame_rel hr
  simp only [List.cons.injEq, Value.slice.injEq, Value.int.injEq, Value.bool.injEq, and_true, true_and, Prod.mk.injEq] at e hx
  simp only [e, hx]; exact h4
theorem Frame_sl5 {w : World} {F : List Nat} {x0 : Int} {x1 : Int} {x2 : Int} {A3 : Option Addr} {n3 c3 : Nat} {s3 : List Int} {A4 : Option Addr} {n4 c4 : Nat} {s4 : List Int} {A5 : Option Addr} {n5 c5 : Nat} {s5 : List Bool} {x6 : Int} {x7 : Int} {x8 : Int} {x9 : Int} {y10 : Bool} (h : FrameR.own w F [.int .i64 x0, .int .i64 x1, .int .i64 x2, .slice A3 n3 c3, .slice A4 n4 c4, .slice A5 n5 c5, .int .i64 x6, .int .i64 x7, .int .i64 x8, .int .i64 x9, .bool y10] (x0, x1, x2, s3, s4, s5, x6, x7, x8, x9, y10)) : Sl boolR w 0 w.heap.size A5 n5 c5 s5 := by
  have hr := FrameR.ownRel h (fun k hk => ⟨Nat.zero_le k, FrameR.ownLt h k hk⟩)
  obtain ⟨x0q, x1q, x2q, A3q, n3q, c3q, s3q, A4q, n4q, c4q, s4q, A5q, n5q, c5q, s5q, x6q, x7q, x8q, x9q, y10q, e, hx, i0, i1, i2, h3, h4, h5, i6, i7, i8, i9⟩ := Frame_rel hr
  simp only [List.cons.injEq, Value.slice.injEq, Value.int.injEq, Value.bool.injEq, and_true, true_and, Prod.mk.injEq] at e hx
  simp only [e, hx]; exact h5
theorem Frame_at {w : World} {lo hi : Nat} {A : Option Addr} {n c k : Nat} {l : List Frame} (h : Sl FrameR w lo hi A n c l) (hk : k < n) :
    ∃ b off x0 x1 x2 A3 n3 c3 s3 A4 n4 c4 s4 A5 n5 c5 s5 x6 x7 x8 x9 y10, A = some ⟨b, off, none⟩ ∧ lo ≤ b ∧ b < hi ∧ l[k]'(by have := h.1; omega) = (x0, x1, x2, s3, s4, s5, x6, x7, x8, x9, y10) ∧ I64 x0 ∧ I64 x1 ∧ I64 x2 ∧ Sl intR w lo hi A3 n3 c3 s3 ∧ Sl intR w lo hi A4 n4 c4 s4 ∧ Sl boolR w lo hi A5 n5 c5 s5 ∧ I64 x6 ∧ I64 x7 ∧ I64 x8 ∧ I64 x9 ∧ w.cell? ⟨b, off + k * 11, none⟩ = some (.int .i64 x0) ∧ w.cell? ⟨b, off + k * 11 + 1, none⟩ = some (.int .i64 x1) ∧ w.cell? ⟨b, off + k * 11 + 2, none⟩ = some (.int .i64 x2) ∧ w.cell? ⟨b, off + k * 11 + 3, none⟩ = some (.slice A3 n3 c3) ∧ w.cell? ⟨b, off + k * 11 + 4, none⟩ = some (.slice A4 n4 c4) ∧ w.cell? ⟨b, off + k * 11 + 5, none⟩ = some (.slice A5 n5 c5) ∧ w.cell? ⟨b, off + k * 11 + 6, none⟩ = some (.int .i64 x6) ∧ w.cell? ⟨b, off + k * 11 + 7, none⟩ = some (.int .i64 x7) ∧ w.cell? ⟨b, off + k * 11 + 8, none⟩ = some (.int .i64 x8) ∧ w.cell? ⟨b, off + k * 11 + 9, none⟩ = some (.int .i64 x9) ∧ w.cell? ⟨b, off + k * 11 + 10, none⟩ = some (.bool y10) := by
  obtain ⟨b, off, cs, rfl, hb1, hb2, hr, hc⟩ := h.at_ hk
  obtain ⟨x0, x1, x2, A3, n3, c3, s3, A4, n4, c4, s4, A5, n5, c5, s5, x6, x7, x8, x9, y10, rfl, hx, i0, i1, i2, h3, h4, h5, i6, i7, i8, i9⟩ := Frame_rel hr
  exact ⟨b, off, x0, x1, x2, A3, n3, c3, s3, A4, n4, c4, s4, A5, n5, c5, s5, x6, x7, x8, x9, y10, rfl, hb1, hb2, hx, i0, i1, i2, h3, h4, h5, i6, i7, i8, i9, hc 0 (by simp), hc 1 (by simp), hc 2 (by simp), hc 3 (by simp), hc 4 (by simp), hc 5 (by simp), hc 6 (by simp), hc 7 (by simp), hc 8 (by simp), hc 9 (by simp), hc 10 (by simp)⟩
theorem rdFrame : Rd Try.prog 190 FrameR := rd_struct Try.underlying190 (by kernel_rfl) (rdF_cons rfl (by kernel_rfl) (rd_int Try.underlying3) (rdF_cons rfl (by kernel_rfl) (rd_int Try.underlying3) (rdF_cons rfl (by kernel_rfl) (rd_int Try.underlying3) (rdF_cons rfl (by kernel_rfl) rdInts (rdF_cons rfl (by kernel_rfl) rdInts (rdF_cons rfl (by kernel_rfl) rdBools (rdF_cons rfl (by kernel_rfl) (rd_int Try.underlying3) (rdF_cons rfl (by kernel_rfl) (rd_int Try.underlying3) (rdF_cons rfl (by kernel_rfl) (rd_int Try.underlying3) (rdF_cons rfl (by kernel_rfl) (rd_int Try.underlying3) (rdF_one rfl (by kernel_rfl) (rd_bool Try.underlying4)) (by decide)) (by decide)) (by decide)) (by decide)) (by decide)) (by decide)) (by decide)) (by decide)) (by decide)) (by decide))
theorem rdFrames : Rd Try.prog 33 (sliceR 127 FrameR) := rd_slice Try.underlying33 (by kernel_rfl) (by decide) rdFrame
def RetToFrame (x0 : Int) (x1 : Int) (x2 : Int) (s3 : List Int) (s4 : List Int) (s5 : List Bool) (x6 : Int) (x7 : Int) (x8 : Int) (x9 : Int) (y10 : Bool) (w : World) (e : Ending) (w' : World) : Prop :=
  ∃ F A3 n3 c3 A4 n4 c4 A5 n5 c5, e = .returned (.agg #[.int .i64 x0, .int .i64 x1, .int .i64 x2, .slice A3 n3 c3, .slice A4 n4 c4, .slice A5 n5 c5, .int .i64 x6, .int .i64 x7, .int .i64 x8, .int .i64 x9, .bool y10]) ∧ FrameR.own w' F [.int .i64 x0, .int .i64 x1, .int .i64 x2, .slice A3 n3 c3, .slice A4 n4 c4, .slice A5 n5 c5, .int .i64 x6, .int .i64 x7, .int .i64 x8, .int .i64 x9, .bool y10] (x0, x1, x2, s3, s4, s5, x6, x7, x8, x9, y10) ∧ (∀ k, k ∈ F → w.heap.size ≤ k) ∧ Below w.heap.size w w'
theorem lawsToFrame (w : World) (lo hi : Nat) (x0 : Int) (x1 : Int) (x2 : Int) (A3 : Option Addr) (n3 c3 : Nat) (s3 : List Int) (A4 : Option Addr) (n4 c4 : Nat) (s4 : List Int) (A5 : Option Addr) (n5 c5 : Nat) (s5 : List Bool) (x6 : Int) (x7 : Int) (x8 : Int) (x9 : Int) (y10 : Bool) (h3 : Sl intR w lo hi A3 n3 c3 s3) (h4 : Sl intR w lo hi A4 n4 c4 s4) (h5 : Sl boolR w lo hi A5 n5 c5 s5) (hh : hi ≤ w.heap.size) (m3 : s3.length ≤ 1048576) (m4 : s4.length ≤ 1048576) (m5 : s5.length ≤ 1048576) (i0 : I64 x0) (i1 : I64 x1) (i2 : I64 x2) (i6 : I64 x6) (i7 : I64 x7) (i8 : I64 x8) (i9 : I64 x9) :
    Calls Try.prog 155 #[.agg #[.int .i64 x0, .int .i64 x1, .int .i64 x2, .slice A3 n3 c3, .slice A4 n4 c4, .slice A5 n5 c5, .int .i64 x6, .int .i64 x7, .int .i64 x8, .int .i64 x9, .bool y10]] w (RetToFrame x0 x1 x2 s3 s4 s5 x6 x7 x8 x9 y10 w) := by
  go_enter Try.func155, Try.ntmps155
  go_wp2_with fail
  refine (lawsToIntS _ lo hi n3 c3 A3 s3 (h3.below (B := w.heap.size) (by (repeat (first | with_reducible exact Below.refl _ _ | with_reducible assumption | with_reducible refine below_alloc ?_ _ | ((with_reducible refine Below.setCell ?_ ?_ _); rotate_left; (· first | exact Nat.le_refl _ | (simp; done) | (simp; omega))) | with_reducible refine below_drewN ?_ _ | with_reducible refine Below.drew ?_ | with_reducible refine below_then ?_ (by with_reducible assumption)))) hh) (by first | omega | (simp; omega)) (by have := h3.lenEq; omega)).mono ?_
  rintro e w3 ⟨F3, A3', n3', c3', rfl, o3, f3, b3⟩
  obtain ⟨hc3, hf3⟩ := bcell b3
  have hz3 := b3.size
  try simp at hz3
  have hv3 : w.heap.size < w3.heap.size := by omega
  have hx3 : w.heap.size + 1 < w3.heap.size := by omega
  have hy3 : w.heap.size + 1 + 1 < w3.heap.size := by omega
  have g3 : ∀ k, k ∈ F3 → w.heap.size + 3 ≤ k := fun k hk => by have := f3 k hk; simp at this; omega
  have l3 := o3.lt
  go_wp2_with fail
  refine (lawsToIntS _ lo hi n4 c4 A4 s4 (h4.below (B := w.heap.size) (by (repeat (first | with_reducible exact Below.refl _ _ | with_reducible assumption | with_reducible refine below_alloc ?_ _ | ((with_reducible refine Below.setCell ?_ ?_ _); rotate_left; (· first | exact Nat.le_refl _ | (simp; done) | (simp; omega))) | with_reducible refine below_drewN ?_ _ | with_reducible refine Below.drew ?_ | with_reducible refine below_then ?_ (by with_reducible assumption)))) hh) (by first | omega | (simp; omega)) (by have := h4.lenEq; omega)).mono ?_
  rintro e w4 ⟨F4, A4', n4', c4', rfl, o4, f4, b4⟩
  obtain ⟨hc4, hf4⟩ := bcell b4
  have hz4 := b4.size
  try simp at hz4
  have hv4 : w.heap.size < w4.heap.size := by omega
  have hx4 : w.heap.size + 1 < w4.heap.size := by omega
  have hy4 : w.heap.size + 1 + 1 < w4.heap.size := by omega
  have g4 : ∀ k, k ∈ F4 → w3.heap.size ≤ k := fun k hk => by have := f4 k hk; simp at this; omega
  have l4 := o4.lt
  go_wp2_with fail
  refine (lawsToBoolS _ lo hi n5 c5 A5 s5 (h5.below (B := w.heap.size) (by (repeat (first | with_reducible exact Below.refl _ _ | with_reducible assumption | with_reducible refine below_alloc ?_ _ | ((with_reducible refine Below.setCell ?_ ?_ _); rotate_left; (· first | exact Nat.le_refl _ | (simp; done) | (simp; omega))) | with_reducible refine below_drewN ?_ _ | with_reducible refine Below.drew ?_ | with_reducible refine below_then ?_ (by with_reducible assumption)))) hh) (by first | omega | (simp; omega)) (by have := h5.lenEq; omega)).mono ?_
  rintro e w5 ⟨F5, A5', n5', c5', rfl, o5, f5, b5⟩
  obtain ⟨hc5, hf5⟩ := bcell b5
  have hz5 := b5.size
  try simp at hz5
  have hv5 : w.heap.size < w5.heap.size := by omega
  have hx5 : w.heap.size + 1 < w5.heap.size := by omega
  have hy5 : w.heap.size + 1 + 1 < w5.heap.size := by omega
  have g5 : ∀ k, k ∈ F5 → w4.heap.size ≤ k := fun k hk => by have := f5 k hk; simp at this; omega
  have l5 := o5.lt
  go_wp2_with fail
  refine bodyPost_ret (v := .agg #[.int .i64 x0, .int .i64 x1, .int .i64 x2, .slice A3' n3' c3', .slice A4' n4' c4', .slice A5' n5' c5', .int .i64 x6, .int .i64 x7, .int .i64 x8, .int .i64 x9, .bool y10]) (by simp [results, Try.results155, go_sem, hc3, hf3, hv3, hx3, hy3, hc4, hf4, hv4, hx4, hy4, hc5, hf5, hv5, hx5, hy5]) rfl ?_
  have k3 := fun (W : World) (hW : Fr [w.heap.size, w.heap.size + 1, w.heap.size + 1 + 1] w3 W) => o3.fr hW (fun k hk hk' => by have := g3 k hk; simp at hk'; omega)
  have k4 := fun (W : World) (hW : Fr [w.heap.size, w.heap.size + 1, w.heap.size + 1 + 1] w4 W) => o4.fr hW (fun k hk hk' => by have := g4 k hk; simp at hk'; omega)
  have k5 := fun (W : World) (hW : Fr [w.heap.size, w.heap.size + 1, w.heap.size + 1 + 1] w5 W) => o5.fr hW (fun k hk hk' => by have := g5 k hk; simp at hk'; omega)
  exact ⟨_, A3', n3', c3', A4', n4', c4', A5', n5', c5', rfl, Frame_own (k3 _ (by (repeat (first | with_reducible exact Fr.refl _ _ | with_reducible assumption | ((with_reducible refine Fr.setCell ?_ ?_ _); rotate_left; (· first | (simp; done) | assumption | (simp; assumption))) | with_reducible refine Fr.drewN ?_ _ | with_reducible refine Fr.drew ?_ | with_reducible refine Fr.alloc ?_ _ | with_reducible refine Fr.trans ?_ (Fr.of_below (by with_reducible assumption)))))) (k4 _ (by (repeat (first | with_reducible exact Fr.refl _ _ | with_reducible assumption | ((with_reducible refine Fr.setCell ?_ ?_ _); rotate_left; (· first | (simp; done) | assumption | (simp; assumption))) | with_reducible refine Fr.drewN ?_ _ | with_reducible refine Fr.drew ?_ | with_reducible refine Fr.alloc ?_ _ | with_reducible refine Fr.trans ?_ (Fr.of_below (by with_reducible assumption)))))) (k5 _ (by (repeat (first | with_reducible exact Fr.refl _ _ | with_reducible assumption | ((with_reducible refine Fr.setCell ?_ ?_ _); rotate_left; (· first | (simp; done) | assumption | (simp; assumption))) | with_reducible refine Fr.drewN ?_ _ | with_reducible refine Fr.drew ?_ | with_reducible refine Fr.alloc ?_ _ | with_reducible refine Fr.trans ?_ (Fr.of_below (by with_reducible assumption)))))) i0 i1 i2 i6 i7 i8 i9 (nodup_app o3.nodup (nodup_app o4.nodup o5.nodup l4 (fun k hk => by have := g5 k hk; omega)) l3 (fun k hk => by (simp only [List.mem_append] at hk; rcases hk with hk | hk; all_goals first | (have := g4 k hk; omega) | (have := g5 k hk; omega)))), fun k hk => by (simp only [List.mem_append] at hk; rcases hk with hk | hk | hk; all_goals first | (have := g3 k hk; omega) | (have := g4 k hk; omega) | (have := g5 k hk; omega)), by (repeat (first | with_reducible exact Below.refl _ _ | with_reducible assumption | with_reducible refine below_alloc ?_ _ | ((with_reducible refine Below.setCell ?_ ?_ _); rotate_left; (· first | exact Nat.le_refl _ | (simp; done) | (simp; omega))) | with_reducible refine below_drewN ?_ _ | with_reducible refine Below.drew ?_ | with_reducible refine below_then ?_ (by with_reducible assumption)))⟩
theorem Try.infoFrame : (Try.prog.info? 127).map (fun i => (i.zero, i.size, i.bytes)) = some (some (.agg #[.int .i64 0, .int .i64 0, .int .i64 0, .slice none 0 0, .slice none 0 0, .slice none 0 0, .int .i64 0, .int .i64 0, .int .i64 0, .int .i64 0, .bool false]), 11, 136) := by kernel_rfl
theorem lawsToFrameS (w : World) (lo hi n c : Nat) (A : Option Addr) (l : List Frame) (h : Sl FrameR w lo hi A n c l) (hh : hi ≤ w.heap.size) (hm : mszLFrame l ≤ 1048576) :
    Calls Try.prog 85 #[.slice A n c] w (RetOwn FrameR 127 l w) := by
  have e1 := h.lenEq
  have hn : n ≤ 1048576 := by have := mszLFrame_len l; omega
  obtain ⟨inf, hif, hz0, hz1, hz2⟩ := info_parts Try.infoFrame
  go_enter Try.func85, Try.ntmps85
  go_wp2_with (at_make; refine wpList_make_full _ rfl _ _ 40 rfl 0 127 inf (.agg #[.int .i64 0, .int .i64 0, .int .i64 0, .slice none 0 0, .slice none 0 0, .slice none 0 0, .int .i64 0, .int .i64 0, .int .i64 0, .int .i64 0, .bool false]) 11 Try.underlying40 hif hz0 hz1 _ _ _ _ n rfl rfl rfl rfl (by rw [hz2]; omega) (by unfold maxLen; omega) (Nat.zero_le _) ?_)
  intro w1 hown hg
  have hF := Fill.start (R := FrameR) hown
  have hb0 : Below w.heap.size w w1 := (Below.refl _ _).grown hg (Nat.le_refl _) (fun k hk => by cases hk)
  clear hown hg
  go_wp2
  go_loopw [4] (fun i wr => ∃ (k : Nat) (F : List Nat), k ≤ n ∧ i = .int .i64 k ∧ Fill FrameR wr 127 F w.heap.size n (l.take k) ∧ (∀ j, j ∈ F → w.heap.size ≤ j) ∧ Below w.heap.size w wr) (fun i _ => n - (intOf i).toNat)
  case atStart => exact ⟨0, _, Nat.zero_le _, rfl, hF, by simp, hb0⟩
  case round =>
    obtain ⟨k, F, hk, rfl, hF, hge, hb⟩ := hrel
    by_cases hlt : k < n
    · obtain ⟨b, o, x0, x1, x2, A3, n3, c3, s3, A4, n4, c4, s4, A5, n5, c5, s5, x6, x7, x8, x9, y10, rfl, _, _, hl0, i0, i1, i2, h3, h4, h5, i6, i7, i8, i9, d0, d1, d2, d3, d4, d5, d6, d7, d8, d9, d10⟩ := Frame_at (h.below hb hh) hlt
      have hmk := mszFrame_at (l := l) (k := k) (by omega)
      rw [hl0] at hmk
      simp only [mszFrame] at hmk
      have hl := Lib.hid hl0
      clear hl0
      have hbs := hb.size
      go_wp2_with fail
      refine (lawsToFrame _ lo hi x0 x1 x2 A3 n3 c3 s3 A4 n4 c4 s4 A5 n5 c5 s5 x6 x7 x8 x9 y10 h3 h4 h5 (by omega) (by omega) (by omega) (by omega) i0 i1 i2 i6 i7 i8 i9).mono ?_
      rintro e w2 ⟨Fx, A3', n3', c3', A4', n4', c4', A5', n5', c5', rfl, hox, hfx, hb2⟩
      have hF2 := hF.below hb2
      have hlk : (l.take k).length = k := by simp; omega
      obtain ⟨u0, hu0⟩ : ∃ u, w2.cell? ⟨w.heap.size, k * 11, none⟩ = some u := hF2.cell' hlk hlt (j := 0) (by decide)
      obtain ⟨u1, hu1⟩ : ∃ u, w2.cell? ⟨w.heap.size, k * 11 + 1, none⟩ = some u := hF2.cell' hlk hlt (j := 1) (by decide)
      obtain ⟨u2, hu2⟩ : ∃ u, w2.cell? ⟨w.heap.size, k * 11 + 2, none⟩ = some u := hF2.cell' hlk hlt (j := 2) (by decide)
      obtain ⟨u3, hu3⟩ : ∃ u, w2.cell? ⟨w.heap.size, k * 11 + 3, none⟩ = some u := hF2.cell' hlk hlt (j := 3) (by decide)
      obtain ⟨u4, hu4⟩ : ∃ u, w2.cell? ⟨w.heap.size, k * 11 + 4, none⟩ = some u := hF2.cell' hlk hlt (j := 4) (by decide)
      obtain ⟨u5, hu5⟩ : ∃ u, w2.cell? ⟨w.heap.size, k * 11 + 5, none⟩ = some u := hF2.cell' hlk hlt (j := 5) (by decide)
      obtain ⟨u6, hu6⟩ : ∃ u, w2.cell? ⟨w.heap.size, k * 11 + 6, none⟩ = some u := hF2.cell' hlk hlt (j := 6) (by decide)
      obtain ⟨u7, hu7⟩ : ∃ u, w2.cell? ⟨w.heap.size, k * 11 + 7, none⟩ = some u := hF2.cell' hlk hlt (j := 7) (by decide)
      obtain ⟨u8, hu8⟩ : ∃ u, w2.cell? ⟨w.heap.size, k * 11 + 8, none⟩ = some u := hF2.cell' hlk hlt (j := 8) (by decide)
      obtain ⟨u9, hu9⟩ : ∃ u, w2.cell? ⟨w.heap.size, k * 11 + 9, none⟩ = some u := hF2.cell' hlk hlt (j := 9) (by decide)
      obtain ⟨u10, hu10⟩ : ∃ u, w2.cell? ⟨w.heap.size, k * 11 + 10, none⟩ = some u := hF2.cell' hlk hlt (j := 10) (by decide)
      have f0 := hF2.frozen (k * 11)
      have f1 := hF2.frozen (k * 11 + 1)
      have f2 := hF2.frozen (k * 11 + 2)
      have f3 := hF2.frozen (k * 11 + 3)
      have f4 := hF2.frozen (k * 11 + 4)
      have f5 := hF2.frozen (k * 11 + 5)
      have f6 := hF2.frozen (k * 11 + 6)
      have f7 := hF2.frozen (k * 11 + 7)
      have f8 := hF2.frozen (k * 11 + 8)
      have f9 := hF2.frozen (k * 11 + 9)
      have f10 := hF2.frozen (k * 11 + 10)
      have hst := hF2.step' (Fx := Fx) (cs := [.int .i64 x0, .int .i64 x1, .int .i64 x2, .slice A3' n3' c3', .slice A4' n4' c4', .slice A5' n5' c5', .int .i64 x6, .int .i64 x7, .int .i64 x8, .int .i64 x9, .bool y10]) e1 hlt (by rw [hl.out]; exact hox) (fun i h1 h2 => by have := hfx i h1; have := hF.lt i h2; omega)
      have hb3 := below_setCells w.heap.size (Nat.le_refl _) [.int .i64 x0, .int .i64 x1, .int .i64 x2, .slice A3' n3' c3', .slice A4' n4' c4', .slice A5' n5' c5', .int .i64 x6, .int .i64 x7, .int .i64 x8, .int .i64 x9, .bool y10] (k * 11) w2 (below_then hb hb2)
      have hge2 : ∀ j, j ∈ F ++ Fx → w.heap.size ≤ j := fun j hj => by
        rcases List.mem_append.1 hj with hj | hj
        · exact hge j hj
        · have := hfx j hj; omega
      go_wp2
      go_roundw
      case rel => exact ⟨k + 1, _, by omega, by go_num, hst, hge2, hb3⟩
      case measure => simp [intOf]; omega
    · go_wp2
      go_ret
      exact RetOwn.mk rfl (hF.all e1 (by omega)) hge hb
theorem lawsEqFrame (w : World) (lo hi lo' hi' : Nat) (x0 : Int) (x1 : Int) (x2 : Int) (A3 : Option Addr) (n3 c3 : Nat) (s3 : List Int) (A4 : Option Addr) (n4 c4 : Nat) (s4 : List Int) (A5 : Option Addr) (n5 c5 : Nat) (s5 : List Bool) (x6 : Int) (x7 : Int) (x8 : Int) (x9 : Int) (y10 : Bool) (x0' : Int) (x1' : Int) (x2' : Int) (A3' : Option Addr) (n3' c3' : Nat) (s3' : List Int) (A4' : Option Addr) (n4' c4' : Nat) (s4' : List Int) (A5' : Option Addr) (n5' c5' : Nat) (s5' : List Bool) (x6' : Int) (x7' : Int) (x8' : Int) (x9' : Int) (y10' : Bool) (h3 : Sl intR w lo hi A3 n3 c3 s3) (h4 : Sl intR w lo hi A4 n4 c4 s4) (h5 : Sl boolR w lo hi A5 n5 c5 s5) (h3' : Sl intR w lo' hi' A3' n3' c3' s3') (h4' : Sl intR w lo' hi' A4' n4' c4' s4') (h5' : Sl boolR w lo' hi' A5' n5' c5' s5') (hh : hi ≤ w.heap.size) (hh' : hi' ≤ w.heap.size) :
    Calls Try.prog 156 #[.agg #[.int .i64 x0, .int .i64 x1, .int .i64 x2, .slice A3 n3 c3, .slice A4 n4 c4, .slice A5 n5 c5, .int .i64 x6, .int .i64 x7, .int .i64 x8, .int .i64 x9, .bool y10], .agg #[.int .i64 x0', .int .i64 x1', .int .i64 x2', .slice A3' n3' c3', .slice A4' n4' c4', .slice A5' n5' c5', .int .i64 x6', .int .i64 x7', .int .i64 x8', .int .i64 x9', .bool y10']] w (RetB (eqB (x0, x1, x2, s3, s4, s5, x6, x7, x8, x9, y10) (x0', x1', x2', s3', s4', s5', x6', x7', x8', x9', y10')) w) := by
  go_enter Try.func156, Try.ntmps156
  go_wp2_with fail
  all_goals try (go_ret; exact RetB.mk (by simp_all [eqB]) (by (repeat (first | with_reducible exact Below.refl _ _ | with_reducible assumption | with_reducible refine below_alloc ?_ _ | ((with_reducible refine Below.setCell ?_ ?_ _); rotate_left; (· first | exact Nat.le_refl _ | (simp; done) | (simp; omega))) | with_reducible refine below_drewN ?_ _ | with_reducible refine Below.drew ?_ | with_reducible refine below_then ?_ (by with_reducible assumption)))))
  refine (lawsEqIntS _ lo hi lo' hi' n3 n3' c3 c3' A3 A3' s3 s3' (h3.below (B := w.heap.size) (by (repeat (first | with_reducible exact Below.refl _ _ | with_reducible assumption | with_reducible refine below_alloc ?_ _ | ((with_reducible refine Below.setCell ?_ ?_ _); rotate_left; (· first | exact Nat.le_refl _ | (simp; done) | (simp; omega))) | with_reducible refine below_drewN ?_ _ | with_reducible refine Below.drew ?_ | with_reducible refine below_then ?_ (by with_reducible assumption)))) hh) (h3'.below (B := w.heap.size) (by (repeat (first | with_reducible exact Below.refl _ _ | with_reducible assumption | with_reducible refine below_alloc ?_ _ | ((with_reducible refine Below.setCell ?_ ?_ _); rotate_left; (· first | exact Nat.le_refl _ | (simp; done) | (simp; omega))) | with_reducible refine below_drewN ?_ _ | with_reducible refine Below.drew ?_ | with_reducible refine below_then ?_ (by with_reducible assumption)))) hh') (by first | omega | (simp; omega)) (by first | omega | (simp; omega))).mono ?_
  rintro e w3 ⟨rfl, b3⟩
  obtain ⟨hc3, hf3⟩ := bcell b3
  have hz3 := b3.size
  try simp at hz3
  have hv3 : w.heap.size < w3.heap.size := by omega
  have hx3 : w.heap.size + 1 < w3.heap.size := by omega
  go_wp2_with fail
  all_goals try (go_ret; exact RetB.mk (by simp_all [eqB]) (by (repeat (first | with_reducible exact Below.refl _ _ | with_reducible assumption | with_reducible refine below_alloc ?_ _ | ((with_reducible refine Below.setCell ?_ ?_ _); rotate_left; (· first | exact Nat.le_refl _ | (simp; done) | (simp; omega))) | with_reducible refine below_drewN ?_ _ | with_reducible refine Below.drew ?_ | with_reducible refine below_then ?_ (by with_reducible assumption)))))
  refine (lawsEqIntS _ lo hi lo' hi' n4 n4' c4 c4' A4 A4' s4 s4' (h4.below (B := w.heap.size) (by (repeat (first | with_reducible exact Below.refl _ _ | with_reducible assumption | with_reducible refine below_alloc ?_ _ | ((with_reducible refine Below.setCell ?_ ?_ _); rotate_left; (· first | exact Nat.le_refl _ | (simp; done) | (simp; omega))) | with_reducible refine below_drewN ?_ _ | with_reducible refine Below.drew ?_ | with_reducible refine below_then ?_ (by with_reducible assumption)))) hh) (h4'.below (B := w.heap.size) (by (repeat (first | with_reducible exact Below.refl _ _ | with_reducible assumption | with_reducible refine below_alloc ?_ _ | ((with_reducible refine Below.setCell ?_ ?_ _); rotate_left; (· first | exact Nat.le_refl _ | (simp; done) | (simp; omega))) | with_reducible refine below_drewN ?_ _ | with_reducible refine Below.drew ?_ | with_reducible refine below_then ?_ (by with_reducible assumption)))) hh') (by first | omega | (simp; omega)) (by first | omega | (simp; omega))).mono ?_
  rintro e w4 ⟨rfl, b4⟩
  obtain ⟨hc4, hf4⟩ := bcell b4
  have hz4 := b4.size
  try simp at hz4
  have hv4 : w.heap.size < w4.heap.size := by omega
  have hx4 : w.heap.size + 1 < w4.heap.size := by omega
  go_wp2_with fail
  all_goals try (go_ret; exact RetB.mk (by simp_all [eqB]) (by (repeat (first | with_reducible exact Below.refl _ _ | with_reducible assumption | with_reducible refine below_alloc ?_ _ | ((with_reducible refine Below.setCell ?_ ?_ _); rotate_left; (· first | exact Nat.le_refl _ | (simp; done) | (simp; omega))) | with_reducible refine below_drewN ?_ _ | with_reducible refine Below.drew ?_ | with_reducible refine below_then ?_ (by with_reducible assumption)))))
  refine (lawsEqBoolS _ lo hi lo' hi' n5 n5' c5 c5' A5 A5' s5 s5' (h5.below (B := w.heap.size) (by (repeat (first | with_reducible exact Below.refl _ _ | with_reducible assumption | with_reducible refine below_alloc ?_ _ | ((with_reducible refine Below.setCell ?_ ?_ _); rotate_left; (· first | exact Nat.le_refl _ | (simp; done) | (simp; omega))) | with_reducible refine below_drewN ?_ _ | with_reducible refine Below.drew ?_ | with_reducible refine below_then ?_ (by with_reducible assumption)))) hh) (h5'.below (B := w.heap.size) (by (repeat (first | with_reducible exact Below.refl _ _ | with_reducible assumption | with_reducible refine below_alloc ?_ _ | ((with_reducible refine Below.setCell ?_ ?_ _); rotate_left; (· first | exact Nat.le_refl _ | (simp; done) | (simp; omega))) | with_reducible refine below_drewN ?_ _ | with_reducible refine Below.drew ?_ | with_reducible refine below_then ?_ (by with_reducible assumption)))) hh') (by first | omega | (simp; omega)) (by first | omega | (simp; omega))).mono ?_
  rintro e w5 ⟨rfl, b5⟩
  obtain ⟨hc5, hf5⟩ := bcell b5
  have hz5 := b5.size
  try simp at hz5
  have hv5 : w.heap.size < w5.heap.size := by omega
  have hx5 : w.heap.size + 1 < w5.heap.size := by omega
  go_wp2_with fail
  all_goals (go_ret; exact RetB.mk (by simp_all [eqB]) (by (repeat (first | with_reducible exact Below.refl _ _ | with_reducible assumption | with_reducible refine below_alloc ?_ _ | ((with_reducible refine Below.setCell ?_ ?_ _); rotate_left; (· first | exact Nat.le_refl _ | (simp; done) | (simp; omega))) | with_reducible refine below_drewN ?_ _ | with_reducible refine Below.drew ?_ | with_reducible refine below_then ?_ (by with_reducible assumption)))))
theorem lawsEqFrameS (w : World) (lo hi lo' hi' n n' c c' : Nat) (A A' : Option Addr) (l l' : List Frame) (h : Sl FrameR w lo hi A n c l) (h' : Sl FrameR w lo' hi' A' n' c' l') (hh : hi ≤ w.heap.size) (hh' : hi' ≤ w.heap.size) :
    Calls Try.prog 89 #[.slice A n c, .slice A' n' c'] w (RetB (eqB l l') w) := by
  have e1 := h.lenEq
  have e2 := h'.lenEq
  have b1 := h.lenLe
  have b2 := h'.lenLe
  by_cases hn : n = n'
  · subst hn
    have hn' : ((n : Int) != (n : Int)) = false := by simp
    go_enter Try.func89, Try.ntmps89
    go_wp2
    go_loopw [5] (fun i wr => ∃ k : Nat, k ≤ n ∧ i = .int .i64 k ∧ l.take k = l'.take k ∧ Below w.heap.size w wr) (fun i _ => n - (intOf i).toNat)
    case atStart => exact ⟨0, Nat.zero_le _, rfl, rfl, Below.refl _ _⟩
    case round =>
      obtain ⟨k, hk, rfl, ht0, hb⟩ := hrel
      have ht := Lib.hid ht0
      clear ht0
      have hbs := hb.size
      by_cases hlt : k < n
      · obtain ⟨b, o, x0, x1, x2, A3, n3, c3, s3, A4, n4, c4, s4, A5, n5, c5, s5, x6, x7, x8, x9, y10, rfl, _, _, hl0, i0, i1, i2, h3, h4, h5, i6, i7, i8, i9, d0, d1, d2, d3, d4, d5, d6, d7, d8, d9, d10⟩ := Frame_at (h.below hb hh) hlt
        obtain ⟨b', o', x0', x1', x2', A3', n3', c3', s3', A4', n4', c4', s4', A5', n5', c5', s5', x6', x7', x8', x9', y10', rfl, _, _, hl0', i0', i1', i2', h3', h4', h5', i6', i7', i8', i9', d0', d1', d2', d3', d4', d5', d6', d7', d8', d9', d10'⟩ := Frame_at (h'.below hb hh') hlt
        have hl := Lib.hid hl0
        have hl' := Lib.hid hl0'
        clear hl0 hl0'
        have hst := Lib.hid (fun (he : l[k]'(by omega) = l'[k]'(by omega)) => take_eq_snoc ht.out (by omega) (by omega) he)
        have hne := Lib.hid (fun (he : ¬ l[k]'(by omega) = l'[k]'(by omega)) => ne_of_at (by omega) (by omega) he)
        by_cases he0 : (x0, x1, x2, s3, s4, s5, x6, x7, x8, x9, y10) = (x0', x1', x2', s3', s4', s5', x6', x7', x8', x9', y10')
        · have hd := eqB_true he0
          have hs := Lib.hid (hst.out (by rw [hl.out, hl'.out, he0]))
          clear he0
          go_wp2_with fail
          go_region_held3 (fun w' => w'.cell? ⟨b, o + k * 11, none⟩ = some (.int .i64 x0) ∧ w'.cell? ⟨b, o + k * 11 + 1, none⟩ = some (.int .i64 x1) ∧ w'.cell? ⟨b, o + k * 11 + 2, none⟩ = some (.int .i64 x2) ∧ w'.cell? ⟨b, o + k * 11 + 3, none⟩ = some (.slice A3 n3 c3) ∧ w'.cell? ⟨b, o + k * 11 + 4, none⟩ = some (.slice A4 n4 c4) ∧ w'.cell? ⟨b, o + k * 11 + 5, none⟩ = some (.slice A5 n5 c5) ∧ w'.cell? ⟨b, o + k * 11 + 6, none⟩ = some (.int .i64 x6) ∧ w'.cell? ⟨b, o + k * 11 + 7, none⟩ = some (.int .i64 x7) ∧ w'.cell? ⟨b, o + k * 11 + 8, none⟩ = some (.int .i64 x8) ∧ w'.cell? ⟨b, o + k * 11 + 9, none⟩ = some (.int .i64 x9) ∧ w'.cell? ⟨b, o + k * 11 + 10, none⟩ = some (.bool y10) ∧ w'.cell? ⟨b', o' + k * 11, none⟩ = some (.int .i64 x0') ∧ w'.cell? ⟨b', o' + k * 11 + 1, none⟩ = some (.int .i64 x1') ∧ w'.cell? ⟨b', o' + k * 11 + 2, none⟩ = some (.int .i64 x2') ∧ w'.cell? ⟨b', o' + k * 11 + 3, none⟩ = some (.slice A3' n3' c3') ∧ w'.cell? ⟨b', o' + k * 11 + 4, none⟩ = some (.slice A4' n4' c4') ∧ w'.cell? ⟨b', o' + k * 11 + 5, none⟩ = some (.slice A5' n5' c5') ∧ w'.cell? ⟨b', o' + k * 11 + 6, none⟩ = some (.int .i64 x6') ∧ w'.cell? ⟨b', o' + k * 11 + 7, none⟩ = some (.int .i64 x7') ∧ w'.cell? ⟨b', o' + k * 11 + 8, none⟩ = some (.int .i64 x8') ∧ w'.cell? ⟨b', o' + k * 11 + 9, none⟩ = some (.int .i64 x9') ∧ w'.cell? ⟨b', o' + k * 11 + 10, none⟩ = some (.bool y10')) (first | exact ⟨d0, d1, d2, d3, d4, d5, d6, d7, d8, d9, d10, d0', d1', d2', d3', d4', d5', d6', d7', d8', d9', d10'⟩ | exact ⟨below_cell hb2 d0, below_cell hb2 d1, below_cell hb2 d2, below_cell hb2 d3, below_cell hb2 d4, below_cell hb2 d5, below_cell hb2 d6, below_cell hb2 d7, below_cell hb2 d8, below_cell hb2 d9, below_cell hb2 d10, below_cell hb2 d0', below_cell hb2 d1', below_cell hb2 d2', below_cell hb2 d3', below_cell hb2 d4', below_cell hb2 d5', below_cell hb2 d6', below_cell hb2 d7', below_cell hb2 d8', below_cell hb2 d9', below_cell hb2 d10'⟩)
            (first | (go_at_call 156; refine (lawsEqFrame _ lo hi lo' hi' x0 x1 x2 A3 n3 c3 s3 A4 n4 c4 s4 A5 n5 c5 s5 x6 x7 x8 x9 y10 x0' x1' x2' A3' n3' c3' s3' A4' n4' c4' s4' A5' n5' c5' s5' x6' x7' x8' x9' y10' h3.drew h4.drew h5.drew h3'.drew h4'.drew h5'.drew (by first | omega | (simp; omega)) (by first | omega | (simp; omega))).mono ?_; rintro e w2 ⟨rfl, hb2⟩))
          have hb3 := below_then hb.drew hb2
          go_wp2_with fail
          go_roundw
          case rel => exact ⟨k + 1, by omega, by go_num, hs.out, hb3⟩
          case measure => simp [intOf]; omega
        · have hd := eqB_false he0
          have hs := Lib.hid (eqB_false (hne.out (by rw [hl.out, hl'.out]; exact he0)))
          clear he0
          go_wp2_with fail
          go_region_held3 (fun w' => w'.cell? ⟨b, o + k * 11, none⟩ = some (.int .i64 x0) ∧ w'.cell? ⟨b, o + k * 11 + 1, none⟩ = some (.int .i64 x1) ∧ w'.cell? ⟨b, o + k * 11 + 2, none⟩ = some (.int .i64 x2) ∧ w'.cell? ⟨b, o + k * 11 + 3, none⟩ = some (.slice A3 n3 c3) ∧ w'.cell? ⟨b, o + k * 11 + 4, none⟩ = some (.slice A4 n4 c4) ∧ w'.cell? ⟨b, o + k * 11 + 5, none⟩ = some (.slice A5 n5 c5) ∧ w'.cell? ⟨b, o + k * 11 + 6, none⟩ = some (.int .i64 x6) ∧ w'.cell? ⟨b, o + k * 11 + 7, none⟩ = some (.int .i64 x7) ∧ w'.cell? ⟨b, o + k * 11 + 8, none⟩ = some (.int .i64 x8) ∧ w'.cell? ⟨b, o + k * 11 + 9, none⟩ = some (.int .i64 x9) ∧ w'.cell? ⟨b, o + k * 11 + 10, none⟩ = some (.bool y10) ∧ w'.cell? ⟨b', o' + k * 11, none⟩ = some (.int .i64 x0') ∧ w'.cell? ⟨b', o' + k * 11 + 1, none⟩ = some (.int .i64 x1') ∧ w'.cell? ⟨b', o' + k * 11 + 2, none⟩ = some (.int .i64 x2') ∧ w'.cell? ⟨b', o' + k * 11 + 3, none⟩ = some (.slice A3' n3' c3') ∧ w'.cell? ⟨b', o' + k * 11 + 4, none⟩ = some (.slice A4' n4' c4') ∧ w'.cell? ⟨b', o' + k * 11 + 5, none⟩ = some (.slice A5' n5' c5') ∧ w'.cell? ⟨b', o' + k * 11 + 6, none⟩ = some (.int .i64 x6') ∧ w'.cell? ⟨b', o' + k * 11 + 7, none⟩ = some (.int .i64 x7') ∧ w'.cell? ⟨b', o' + k * 11 + 8, none⟩ = some (.int .i64 x8') ∧ w'.cell? ⟨b', o' + k * 11 + 9, none⟩ = some (.int .i64 x9') ∧ w'.cell? ⟨b', o' + k * 11 + 10, none⟩ = some (.bool y10')) (first | exact ⟨d0, d1, d2, d3, d4, d5, d6, d7, d8, d9, d10, d0', d1', d2', d3', d4', d5', d6', d7', d8', d9', d10'⟩ | exact ⟨below_cell hb2 d0, below_cell hb2 d1, below_cell hb2 d2, below_cell hb2 d3, below_cell hb2 d4, below_cell hb2 d5, below_cell hb2 d6, below_cell hb2 d7, below_cell hb2 d8, below_cell hb2 d9, below_cell hb2 d10, below_cell hb2 d0', below_cell hb2 d1', below_cell hb2 d2', below_cell hb2 d3', below_cell hb2 d4', below_cell hb2 d5', below_cell hb2 d6', below_cell hb2 d7', below_cell hb2 d8', below_cell hb2 d9', below_cell hb2 d10'⟩)
            (first | (go_at_call 156; refine (lawsEqFrame _ lo hi lo' hi' x0 x1 x2 A3 n3 c3 s3 A4 n4 c4 s4 A5 n5 c5 s5 x6 x7 x8 x9 y10 x0' x1' x2' A3' n3' c3' s3' A4' n4' c4' s4' A5' n5' c5' s5' x6' x7' x8' x9' y10' h3.drew h4.drew h5.drew h3'.drew h4'.drew h5'.drew (by first | omega | (simp; omega)) (by first | omega | (simp; omega))).mono ?_; rintro e w2 ⟨rfl, hb2⟩))
          have hb3 := below_then hb.drew hb2
          go_wp2_with fail
          go_ret
          exact RetB.mk hs.out.symm hb3
      · go_wp2_with fail
        go_ret
        exact RetB.mk (eqB_true (eq_of_takes ht.out (by omega) (by omega))).symm hb
  · have hn' : ((n : Int) != (n' : Int)) = true := by simp; omega
    have hd := Lib.hid (eqB_false (x := l) (y := l') (by rintro rfl; omega))
    go_enter Try.func89, Try.ntmps89
    go_wp2
    go_ret
    exact RetB.mk hd.out.symm (Below.refl _ _)
theorem lawsSzFrame (w : World) (lo hi : Nat) (x0 : Int) (x1 : Int) (x2 : Int) (A3 : Option Addr) (n3 c3 : Nat) (s3 : List Int) (A4 : Option Addr) (n4 c4 : Nat) (s4 : List Int) (A5 : Option Addr) (n5 c5 : Nat) (s5 : List Bool) (x6 : Int) (x7 : Int) (x8 : Int) (x9 : Int) (y10 : Bool) (h3 : Sl intR w lo hi A3 n3 c3 s3) (h4 : Sl intR w lo hi A4 n4 c4 s4) (h5 : Sl boolR w lo hi A5 n5 c5 s5) (hh : hi ≤ w.heap.size) (left : Int) (h1 : 0 ≤ left) (h2 : left ≤ 1048576) :
    Calls Try.prog 154 #[.agg #[.int .i64 x0, .int .i64 x1, .int .i64 x2, .slice A3 n3 c3, .slice A4 n4 c4, .slice A5 n5 c5, .int .i64 x6, .int .i64 x7, .int .i64 x8, .int .i64 x9, .bool y10], .int .i64 left] w (RetSz left ((s3.length + s4.length + s5.length : Nat) : Int) w) := by
  go_enter Try.func154, Try.ntmps154
  go_wp2_with fail
  have j3 := h3.lenEq
  refine (lawsSzIntS _ n3 c3 A3 left (by omega) (by omega) h3.lenLe).mono ?_
  rintro e w3 ⟨r3, rfl, hr3, b3⟩
  obtain ⟨hc3, hf3⟩ := bcell b3
  have hz3 := b3.size
  try simp at hz3
  have hv3 : w.heap.size < w3.heap.size := by omega
  rcases hr3 with rfl | ⟨q3, t3⟩
  · go_wp2_with fail
    go_ret
    exact ⟨_, rfl, Or.inl rfl, by (repeat (first | with_reducible exact Below.refl _ _ | with_reducible assumption | with_reducible refine below_alloc ?_ _ | ((with_reducible refine Below.setCell ?_ ?_ _); rotate_left; (· first | exact Nat.le_refl _ | (simp; done) | (simp; omega))) | with_reducible refine below_drewN ?_ _ | with_reducible refine Below.drew ?_ | with_reducible refine below_then ?_ (by with_reducible assumption)))⟩
  have v3 := Lib.hid t3
  clear t3
  have u3 : r3 ≤ 1048576 := by have := v3.out; omega
  go_wp2_with fail
  have j4 := h4.lenEq
  refine (lawsSzIntS _ n4 c4 A4 r3 (by omega) (by omega) h4.lenLe).mono ?_
  rintro e w4 ⟨r4, rfl, hr4, b4⟩
  obtain ⟨hc4, hf4⟩ := bcell b4
  have hz4 := b4.size
  try simp at hz4
  have hv4 : w.heap.size < w4.heap.size := by omega
  rcases hr4 with rfl | ⟨q4, t4⟩
  · go_wp2_with fail
    go_ret
    exact ⟨_, rfl, Or.inl rfl, by (repeat (first | with_reducible exact Below.refl _ _ | with_reducible assumption | with_reducible refine below_alloc ?_ _ | ((with_reducible refine Below.setCell ?_ ?_ _); rotate_left; (· first | exact Nat.le_refl _ | (simp; done) | (simp; omega))) | with_reducible refine below_drewN ?_ _ | with_reducible refine Below.drew ?_ | with_reducible refine below_then ?_ (by with_reducible assumption)))⟩
  have v4 := Lib.hid t4
  clear t4
  have u4 : r4 ≤ 1048576 := by have := v4.out; omega
  go_wp2_with fail
  have j5 := h5.lenEq
  refine (lawsSzBoolS _ n5 c5 A5 r4 (by omega) (by omega) h5.lenLe).mono ?_
  rintro e w5 ⟨r5, rfl, hr5, b5⟩
  obtain ⟨hc5, hf5⟩ := bcell b5
  have hz5 := b5.size
  try simp at hz5
  have hv5 : w.heap.size < w5.heap.size := by omega
  rcases hr5 with rfl | ⟨q5, t5⟩
  · go_wp2_with fail
    go_ret
    exact ⟨_, rfl, Or.inl rfl, by (repeat (first | with_reducible exact Below.refl _ _ | with_reducible assumption | with_reducible refine below_alloc ?_ _ | ((with_reducible refine Below.setCell ?_ ?_ _); rotate_left; (· first | exact Nat.le_refl _ | (simp; done) | (simp; omega))) | with_reducible refine below_drewN ?_ _ | with_reducible refine Below.drew ?_ | with_reducible refine below_then ?_ (by with_reducible assumption)))⟩
  have v5 := Lib.hid t5
  clear t5
  have u5 : r5 ≤ 1048576 := by have := v5.out; omega
  go_wp2_with fail
  go_ret
  exact ⟨_, rfl, Or.inr ⟨by omega, by have := v3.out; have := v4.out; have := v5.out; omega⟩, by (repeat (first | with_reducible exact Below.refl _ _ | with_reducible assumption | with_reducible refine below_alloc ?_ _ | ((with_reducible refine Below.setCell ?_ ?_ _); rotate_left; (· first | exact Nat.le_refl _ | (simp; done) | (simp; omega))) | with_reducible refine below_drewN ?_ _ | with_reducible refine Below.drew ?_ | with_reducible refine below_then ?_ (by with_reducible assumption)))⟩
theorem lawsSzFrameS (w : World) (lo hi n c : Nat) (A : Option Addr) (l : List Frame) (h : Sl FrameR w lo hi A n c l) (hh : hi ≤ w.heap.size) (left : Int) (h1 : 0 ≤ left) (h2 : left ≤ 1048576) :
    Calls Try.prog 81 #[.slice A n c, .int .i64 left] w (RetSz left ((mszLFrame l : Nat) : Int) w) := by
  have e1 := h.lenEq
  have b1 := h.lenLe
  by_cases hn : (n : Int) ≤ left
  · go_enter Try.func81, Try.ntmps81
    go_wp2
    go_loopw [1, 5] (fun r i wr => ∃ k : Nat, k ≤ n ∧ i = .int .i64 k ∧ (∃ z : Int, r = .int .i64 z ∧ 0 ≤ z ∧ z ≤ 1048576 ∧ z = left - (n : Int) - (((l.take k).map mszFrame).sum : Nat)) ∧ Below w.heap.size w wr) (fun _ i _ => n - (intOf i).toNat)
    case atStart => exact ⟨0, Nat.zero_le _, rfl, ⟨_, rfl, by omega, by omega, by simp⟩, Below.refl _ _⟩
    case round =>
      obtain ⟨k, hk, rfl, ⟨z, rfl, z0, z1, zq⟩, hb⟩ := hrel
      have zq0 := zq
      clear zq
      have zq := Lib.hid zq0
      clear zq0
      have hbs := hb.size
      by_cases hlt : k < n
      · obtain ⟨b, o, x0, x1, x2, A3, n3, c3, s3, A4, n4, c4, s4, A5, n5, c5, s5, x6, x7, x8, x9, y10, rfl, _, _, hl0, i0, i1, i2, h3, h4, h5, i6, i7, i8, i9, d0, d1, d2, d3, d4, d5, d6, d7, d8, d9, d10⟩ := Frame_at (h.below hb hh) hlt
        have hsum := Lib.hid (sum_take_succ (f := mszFrame) (l := l) (k := k) (by omega))
        rw [hl0] at hsum
        clear hl0
        go_wp2_with fail
        refine (lawsSzFrame _ lo hi x0 x1 x2 A3 n3 c3 s3 A4 n4 c4 s4 A5 n5 c5 s5 x6 x7 x8 x9 y10 h3 h4 h5 (by omega) z z0 z1).mono ?_
        rintro e w2 ⟨r2, rfl, hr2, hb2⟩
        have hb3 := below_then hb hb2
        rcases hr2 with rfl | ⟨q2, t2⟩
        · go_wp2_with fail
          go_ret
          exact ⟨_, rfl, Or.inl rfl, hb3⟩
        · have v2 := Lib.hid t2
          clear t2
          have u2 : r2 ≤ 1048576 := by have := v2.out; omega
          have hq : r2 = left - (n : Int) - (((l.take (k + 1)).map mszFrame).sum : Nat) := by
            have a1 := v2.out; have a2 := zq.out; have a3 := hsum.out
            simp only [mszFrame] at a3; rw [a3]; omega
          have hq0 := hq
          clear hq
          have hq := Lib.hid hq0
          clear hq0
          go_wp2_with fail
          go_roundw
          case rel => exact ⟨k + 1, by omega, by go_num, ⟨_, rfl, q2, u2, hq.out⟩, hb3⟩
          case measure => simp [intOf]; omega
      · rw [List.take_of_length_le (by omega)] at zq
        go_wp2_with fail
        go_ret
        exact ⟨_, rfl, Or.inr ⟨z0, by have := zq.out; unfold mszLFrame; omega⟩, hb⟩
  · have hd : decide (left - (n : Int) < 0) = true := by simp; omega
    go_enter Try.func81, Try.ntmps81
    go_wp2
    go_ret
    exact ⟨_, rfl, Or.inl rfl, Below.refl _ _⟩
end Go.Proofs.Ytfilenabhjjidaa
