/- For every machine and every number of a frame the program's WaitingIn returns what the reference's returns: FnExactWaitingIn returns true, and its arguments read as they did. No condition beyond the row's own. -/
import Derived.Test.YtfilenabhjjidaaWaiting
import Derived.Test.YtfilenabhjjidaaOcVm
import Derived.Test.YtfilenabhjjidaaOc
import Derived.Test.YtfilenabhjjidaaHd
import Derived.Test.YtfilenabhjjidaaLawKit
import Derived.Test.YtfilenabhjjidaaOwnRes
import Derived.Deep.RegionHeld3
set_option linter.unusedVariables false
set_option linter.unusedSimpArgs false
set_option maxRecDepth 100000
namespace Go.Proofs.Ytfilenabhjjidaa
open Go.ChangeShapes Go.WideShapes Go.ChangeAt Go.RowKit
open Go.ChangeMaps (open_string)

set_option maxHeartbeats 8000000 in
theorem fnWaitingIn (w : World) (A0a : Option Addr) (n0a c0a : Nat) (s0a : List Frame) (A1a : Option Addr) (n1a c1a : Nat) (s1a : List Int) (x2a : Int) (x3a : Int) (x4a : Int) (x5a : Int) (A6a : Option Addr) (n6a c6a : Nat) (s6a : List Note) (vb : Int) (h0a : Sl FrameR w 0 w.heap.size A0a n0a c0a s0a) (h1a : Sl intR w 0 w.heap.size A1a n1a c1a s1a) (h6a : Sl noteR w 0 w.heap.size A6a n6a c6a s6a) (i2a : I64 x2a) (i3a : I64 x3a) (i4a : I64 x4a) (i5a : I64 x5a) (ib : I64 vb) :
    Calls Try.prog 5 #[.agg #[.slice A0a n0a c0a, .slice A1a n1a c1a, .int .i64 x2a, .int .i64 x3a, .int .i64 x4a, .int .i64 x5a, .slice A6a n6a c6a], .int .i64 vb] w (RetB true w) := by
  go_enter Try.func5, Try.ntmps5
  go_wp2_with fail
  refine (lawsSzVm _ 0 _ A0a n0a c0a s0a A1a n1a c1a s1a x2a x3a x4a x5a A6a n6a c6a s6a (h0a.up (by omega) (by (repeat (first | with_reducible exact Below.refl _ _ | with_reducible assumption | with_reducible refine below_alloc ?_ _ | ((with_reducible refine Below.setCell ?_ ?_ _); rotate_left; (· first | exact Nat.le_refl _ | (simp; done) | (simp; omega))) | with_reducible refine below_drewN ?_ _ | with_reducible refine Below.drew ?_ | with_reducible refine below_then ?_ (by with_reducible assumption))))) (h1a.up (by omega) (by (repeat (first | with_reducible exact Below.refl _ _ | with_reducible assumption | with_reducible refine below_alloc ?_ _ | ((with_reducible refine Below.setCell ?_ ?_ _); rotate_left; (· first | exact Nat.le_refl _ | (simp; done) | (simp; omega))) | with_reducible refine below_drewN ?_ _ | with_reducible refine Below.drew ?_ | with_reducible refine below_then ?_ (by with_reducible assumption))))) (h6a.up (by omega) (by (repeat (first | with_reducible exact Below.refl _ _ | with_reducible assumption | with_reducible refine below_alloc ?_ _ | ((with_reducible refine Below.setCell ?_ ?_ _); rotate_left; (· first | exact Nat.le_refl _ | (simp; done) | (simp; omega))) | with_reducible refine below_drewN ?_ _ | with_reducible refine Below.drew ?_ | with_reducible refine below_then ?_ (by with_reducible assumption))))) (Nat.le_refl _) 1048576 (by omega) (by omega)).mono ?_
  rintro e w1 ⟨ra, rfl, hra, b⟩
  have hb : Below w.heap.size w w1 := by (repeat (first | with_reducible exact Below.refl _ _ | with_reducible assumption | with_reducible refine below_alloc ?_ _ | ((with_reducible refine Below.setCell ?_ ?_ _); rotate_left; (· first | exact Nat.le_refl _ | (simp; done) | (simp; omega))) | with_reducible refine below_drewN ?_ _ | with_reducible refine Below.drew ?_ | with_reducible refine below_then ?_ (by with_reducible assumption)))
  have hz := hb.size
  replace h0a := h0a.below hb (Nat.le_refl _)
  replace h1a := h1a.below hb (Nat.le_refl _)
  replace h6a := h6a.below hb (Nat.le_refl _)
  obtain ⟨hcE, hfE⟩ := bcell b
  have ka0 : w1.cell? ⟨w.heap.size, 0, none⟩ = some (.slice A0a n0a c0a) := by simp [hcE, go_sem]
  have ka1 : w1.cell? ⟨w.heap.size, 1, none⟩ = some (.slice A1a n1a c1a) := by simp [hcE, go_sem]
  have ka2 : w1.cell? ⟨w.heap.size, 2, none⟩ = some (.int .i64 x2a) := by simp [hcE, go_sem]
  have ka3 : w1.cell? ⟨w.heap.size, 3, none⟩ = some (.int .i64 x3a) := by simp [hcE, go_sem]
  have ka4 : w1.cell? ⟨w.heap.size, 4, none⟩ = some (.int .i64 x4a) := by simp [hcE, go_sem]
  have ka5 : w1.cell? ⟨w.heap.size, 5, none⟩ = some (.int .i64 x5a) := by simp [hcE, go_sem]
  have ka6 : w1.cell? ⟨w.heap.size, 6, none⟩ = some (.slice A6a n6a c6a) := by simp [hcE, go_sem]
  clear hcE hfE
  have zka : w.heap.size < w1.heap.size := World.block_lt_of_cell? w1 _ ka0
  clear b
  rcases hra with rfl | ⟨qa, ta⟩
  · go_wp2_with fail
    go_ret
    exact RetB.mk rfl hb
  have ma : mszLFrame s0a + s1a.length + s6a.length ≤ 1048576 := by omega
  have ua : ra ≤ 1048576 := by omega
  clear ta
  have mm0a : mszLFrame s0a ≤ 1048576 := by omega
  have mm1a : s1a.length ≤ 1048576 := by omega
  have mm6a : s6a.length ≤ 1048576 := by omega
  have hRes := Lib.hid (show (waitR s0a vb).length ≤ 1099511627776 from Nat.le_trans (waitR_le _ _) (by omega))
  have hEq := eqB_true (rfl : waitR s0a vb = waitR s0a vb)
  go_wp2_with fail
  refine (lawsToVm _ 0 _ A0a n0a c0a s0a A1a n1a c1a s1a x2a x3a x4a x5a A6a n6a c6a s6a (h0a.up (by omega) (by (repeat (first | with_reducible exact Below.refl _ _ | with_reducible assumption | with_reducible refine below_alloc ?_ _ | ((with_reducible refine Below.setCell ?_ ?_ _); rotate_left; (· first | exact Nat.le_refl _ | (simp; done) | (simp; omega))) | with_reducible refine below_drewN ?_ _ | with_reducible refine Below.drew ?_ | with_reducible refine below_then ?_ (by with_reducible assumption))))) (h1a.up (by omega) (by (repeat (first | with_reducible exact Below.refl _ _ | with_reducible assumption | with_reducible refine below_alloc ?_ _ | ((with_reducible refine Below.setCell ?_ ?_ _); rotate_left; (· first | exact Nat.le_refl _ | (simp; done) | (simp; omega))) | with_reducible refine below_drewN ?_ _ | with_reducible refine Below.drew ?_ | with_reducible refine below_then ?_ (by with_reducible assumption))))) (h6a.up (by omega) (by (repeat (first | with_reducible exact Below.refl _ _ | with_reducible assumption | with_reducible refine below_alloc ?_ _ | ((with_reducible refine Below.setCell ?_ ?_ _); rotate_left; (· first | exact Nat.le_refl _ | (simp; done) | (simp; omega))) | with_reducible refine below_drewN ?_ _ | with_reducible refine Below.drew ?_ | with_reducible refine below_then ?_ (by with_reducible assumption))))) (Nat.le_refl _) mm0a mm1a mm6a i2a i3a i4a i5a).mono ?_
  rintro e w2 ⟨Faq, A0aq, n0aq, c0aq, A1aq, n1aq, c1aq, A6aq, n6aq, c6aq, rfl, oaq, faq, b⟩
  have hx : Below w1.heap.size w1 w2 := by (repeat (first | with_reducible exact Below.refl _ _ | with_reducible assumption | with_reducible refine below_alloc ?_ _ | ((with_reducible refine Below.setCell ?_ ?_ _); rotate_left; (· first | exact Nat.le_refl _ | (simp; done) | (simp; omega))) | with_reducible refine below_drewN ?_ _ | with_reducible refine Below.drew ?_ | with_reducible refine below_then ?_ (by with_reducible assumption)))
  have zw2 := hx.size
  replace hb := below_then hb hx
  replace h0a := h0a.below hx (by omega)
  replace h1a := h1a.below hx (by omega)
  replace h6a := h6a.below hx (by omega)
  replace ka0 := below_cell hx ka0
  replace ka1 := below_cell hx ka1
  replace ka2 := below_cell hx ka2
  replace ka3 := below_cell hx ka3
  replace ka4 := below_cell hx ka4
  replace ka5 := below_cell hx ka5
  replace ka6 := below_cell hx ka6
  clear hx
  clear b
  go_wp2_with fail
  refine (specWaitingInC _ A0aq n0aq c0aq s0a A1aq n1aq c1aq s1a x2a x3a x4a x5a A6aq n6aq c6aq s6a vb ((Vm_sl0 oaq).next (by (repeat (first | with_reducible exact Below.refl _ _ | with_reducible assumption | with_reducible refine below_alloc ?_ _ | ((with_reducible refine Below.setCell ?_ ?_ _); rotate_left; (· first | exact Nat.le_refl _ | (simp; done) | (simp; omega))) | with_reducible refine below_drewN ?_ _ | with_reducible refine Below.drew ?_ | with_reducible refine below_then ?_ (by with_reducible assumption))))) ((Vm_sl1 oaq).next (by (repeat (first | with_reducible exact Below.refl _ _ | with_reducible assumption | with_reducible refine below_alloc ?_ _ | ((with_reducible refine Below.setCell ?_ ?_ _); rotate_left; (· first | exact Nat.le_refl _ | (simp; done) | (simp; omega))) | with_reducible refine below_drewN ?_ _ | with_reducible refine Below.drew ?_ | with_reducible refine below_then ?_ (by with_reducible assumption))))) ((Vm_sl6 oaq).next (by (repeat (first | with_reducible exact Below.refl _ _ | with_reducible assumption | with_reducible refine below_alloc ?_ _ | ((with_reducible refine Below.setCell ?_ ?_ _); rotate_left; (· first | exact Nat.le_refl _ | (simp; done) | (simp; omega))) | with_reducible refine below_drewN ?_ _ | with_reducible refine Below.drew ?_ | with_reducible refine below_then ?_ (by with_reducible assumption))))) mm0a mm1a mm6a i2a i3a i4a i5a ib).mono ?_
  rintro e w3 ⟨Aw, nw, cw, rfl, ow, b⟩
  have hx : Below w2.heap.size w2 w3 := by (repeat (first | with_reducible exact Below.refl _ _ | with_reducible assumption | with_reducible refine below_alloc ?_ _ | ((with_reducible refine Below.setCell ?_ ?_ _); rotate_left; (· first | exact Nat.le_refl _ | (simp; done) | (simp; omega))) | with_reducible refine below_drewN ?_ _ | with_reducible refine Below.drew ?_ | with_reducible refine below_then ?_ (by with_reducible assumption)))
  have zw3 := hx.size
  replace hb := below_then hb hx
  replace h0a := h0a.below hx (by omega)
  replace h1a := h1a.below hx (by omega)
  replace h6a := h6a.below hx (by omega)
  replace ka0 := below_cell hx ka0
  replace ka1 := below_cell hx ka1
  replace ka2 := below_cell hx ka2
  replace ka3 := below_cell hx ka3
  replace ka4 := below_cell hx ka4
  replace ka5 := below_cell hx ka5
  replace ka6 := below_cell hx ka6
  clear hx
  clear b
  clear oaq faq
  go_wp2_with fail
  refine (lawsToVm _ 0 _ A0a n0a c0a s0a A1a n1a c1a s1a x2a x3a x4a x5a A6a n6a c6a s6a (h0a.up (by omega) (by (repeat (first | with_reducible exact Below.refl _ _ | with_reducible assumption | with_reducible refine below_alloc ?_ _ | ((with_reducible refine Below.setCell ?_ ?_ _); rotate_left; (· first | exact Nat.le_refl _ | (simp; done) | (simp; omega))) | with_reducible refine below_drewN ?_ _ | with_reducible refine Below.drew ?_ | with_reducible refine below_then ?_ (by with_reducible assumption))))) (h1a.up (by omega) (by (repeat (first | with_reducible exact Below.refl _ _ | with_reducible assumption | with_reducible refine below_alloc ?_ _ | ((with_reducible refine Below.setCell ?_ ?_ _); rotate_left; (· first | exact Nat.le_refl _ | (simp; done) | (simp; omega))) | with_reducible refine below_drewN ?_ _ | with_reducible refine Below.drew ?_ | with_reducible refine below_then ?_ (by with_reducible assumption))))) (h6a.up (by omega) (by (repeat (first | with_reducible exact Below.refl _ _ | with_reducible assumption | with_reducible refine below_alloc ?_ _ | ((with_reducible refine Below.setCell ?_ ?_ _); rotate_left; (· first | exact Nat.le_refl _ | (simp; done) | (simp; omega))) | with_reducible refine below_drewN ?_ _ | with_reducible refine Below.drew ?_ | with_reducible refine below_then ?_ (by with_reducible assumption))))) (Nat.le_refl _) mm0a mm1a mm6a i2a i3a i4a i5a).mono ?_
  rintro e w4 ⟨Fax, A0ax, n0ax, c0ax, A1ax, n1ax, c1ax, A6ax, n6ax, c6ax, rfl, oax, fax, b⟩
  have hx : Below w3.heap.size w3 w4 := by (repeat (first | with_reducible exact Below.refl _ _ | with_reducible assumption | with_reducible refine below_alloc ?_ _ | ((with_reducible refine Below.setCell ?_ ?_ _); rotate_left; (· first | exact Nat.le_refl _ | (simp; done) | (simp; omega))) | with_reducible refine below_drewN ?_ _ | with_reducible refine Below.drew ?_ | with_reducible refine below_then ?_ (by with_reducible assumption)))
  have zw4 := hx.size
  replace hb := below_then hb hx
  replace h0a := h0a.below hx (by omega)
  replace h1a := h1a.below hx (by omega)
  replace h6a := h6a.below hx (by omega)
  replace ow := ow.below hx (by omega)
  replace ka0 := below_cell hx ka0
  replace ka1 := below_cell hx ka1
  replace ka2 := below_cell hx ka2
  replace ka3 := below_cell hx ka3
  replace ka4 := below_cell hx ka4
  replace ka5 := below_cell hx ka5
  replace ka6 := below_cell hx ka6
  clear hx
  clear b
  have Lax : ∀ k, k ∈ Fax → k < w4.heap.size := VmR.ownLt oax
  obtain ⟨F0ax, F1ax, F6ax, eFax, ndax, o0ax, o1ax, o6ax⟩ := Vm_ownc oax
  rw [eFax] at fax Lax
  clear oax eFax
  have f0ax : ∀ k, k ∈ F0ax → _ ≤ k := fun k hk => fax k (List.mem_append_left _ hk)
  have L0ax : ∀ k, k ∈ F0ax → k < w4.heap.size := fun k hk => Lax k (List.mem_append_left _ hk)
  have f1ax : ∀ k, k ∈ F1ax → _ ≤ k := fun k hk => fax k (List.mem_append_right _ (List.mem_append_left _ hk))
  have L1ax : ∀ k, k ∈ F1ax → k < w4.heap.size := fun k hk => Lax k (List.mem_append_right _ (List.mem_append_left _ hk))
  have f6ax : ∀ k, k ∈ F6ax → _ ≤ k := fun k hk => fax k (List.mem_append_right _ (List.mem_append_right _ hk))
  have L6ax : ∀ k, k ∈ F6ax → k < w4.heap.size := fun k hk => Lax k (List.mem_append_right _ (List.mem_append_right _ hk))
  go_wp2_with fail
  refine (implWaitingInC _ A0ax n0ax c0ax s0a A1ax n1ax c1ax s1a x2a x3a x4a x5a A6ax n6ax c6ax s6a vb (o0ax.sl.next (by (repeat (first | with_reducible exact Below.refl _ _ | with_reducible assumption | with_reducible refine below_alloc ?_ _ | ((with_reducible refine Below.setCell ?_ ?_ _); rotate_left; (· first | exact Nat.le_refl _ | (simp; done) | (simp; omega))) | with_reducible refine below_drewN ?_ _ | with_reducible refine Below.drew ?_ | with_reducible refine below_then ?_ (by with_reducible assumption))))) (o1ax.sl.next (by (repeat (first | with_reducible exact Below.refl _ _ | with_reducible assumption | with_reducible refine below_alloc ?_ _ | ((with_reducible refine Below.setCell ?_ ?_ _); rotate_left; (· first | exact Nat.le_refl _ | (simp; done) | (simp; omega))) | with_reducible refine below_drewN ?_ _ | with_reducible refine Below.drew ?_ | with_reducible refine below_then ?_ (by with_reducible assumption))))) (o6ax.sl.next (by (repeat (first | with_reducible exact Below.refl _ _ | with_reducible assumption | with_reducible refine below_alloc ?_ _ | ((with_reducible refine Below.setCell ?_ ?_ _); rotate_left; (· first | exact Nat.le_refl _ | (simp; done) | (simp; omega))) | with_reducible refine below_drewN ?_ _ | with_reducible refine Below.drew ?_ | with_reducible refine below_then ?_ (by with_reducible assumption))))) mm0a mm1a mm6a i2a i3a i4a i5a ib).mono ?_
  rintro e w5 ⟨Fg, Ag, ng, cg, rfl, og, fg, b⟩
  have hx : Below w4.heap.size w4 w5 := by (repeat (first | with_reducible exact Below.refl _ _ | with_reducible assumption | with_reducible refine below_alloc ?_ _ | ((with_reducible refine Below.setCell ?_ ?_ _); rotate_left; (· first | exact Nat.le_refl _ | (simp; done) | (simp; omega))) | with_reducible refine below_drewN ?_ _ | with_reducible refine Below.drew ?_ | with_reducible refine below_then ?_ (by with_reducible assumption)))
  have zw5 := hx.size
  replace hb := below_then hb hx
  replace h0a := h0a.below hx (by omega)
  replace h1a := h1a.below hx (by omega)
  replace h6a := h6a.below hx (by omega)
  replace ow := ow.below hx (by omega)
  replace o0ax := o0ax.below hx
  replace o1ax := o1ax.below hx
  replace o6ax := o6ax.below hx
  replace ka0 := below_cell hx ka0
  replace ka1 := below_cell hx ka1
  replace ka2 := below_cell hx ka2
  replace ka3 := below_cell hx ka3
  replace ka4 := below_cell hx ka4
  replace ka5 := below_cell hx ka5
  replace ka6 := below_cell hx ka6
  obtain ⟨hcE, hfE⟩ := bcell b
  have ja0 : w5.cell? ⟨w4.heap.size, 0, none⟩ = some (.slice A0ax n0ax c0ax) := by simp [hcE, go_sem]
  have ja1 : w5.cell? ⟨w4.heap.size, 1, none⟩ = some (.slice A1ax n1ax c1ax) := by simp [hcE, go_sem]
  have ja2 : w5.cell? ⟨w4.heap.size, 2, none⟩ = some (.int .i64 x2a) := by simp [hcE, go_sem]
  have ja3 : w5.cell? ⟨w4.heap.size, 3, none⟩ = some (.int .i64 x3a) := by simp [hcE, go_sem]
  have ja4 : w5.cell? ⟨w4.heap.size, 4, none⟩ = some (.int .i64 x4a) := by simp [hcE, go_sem]
  have ja5 : w5.cell? ⟨w4.heap.size, 5, none⟩ = some (.int .i64 x5a) := by simp [hcE, go_sem]
  have ja6 : w5.cell? ⟨w4.heap.size, 6, none⟩ = some (.slice A6ax n6ax c6ax) := by simp [hcE, go_sem]
  clear hcE hfE
  have zja : w4.heap.size < w5.heap.size := World.block_lt_of_cell? w5 _ ja0
  clear hx
  clear b
  replace fg : ∀ k, k ∈ Fg → w4.heap.size ≤ k := fun k hk => by have := fg k hk; first | omega | (simp at this; omega)
  have Lg := og.lt
  go_wp2_with fail
  refine (lawsEqIntS _ 0 _ 0 _ ng nw cg cw Ag Aw _ _ og.sl (ow.more (Nat.le_refl _) (by omega)) (Nat.le_refl _) (Nat.le_refl _)).mono ?_
  rintro e w6 ⟨rfl, b⟩
  have hx : Below w5.heap.size w5 w6 := by (repeat (first | with_reducible exact Below.refl _ _ | with_reducible assumption | with_reducible refine below_alloc ?_ _ | ((with_reducible refine Below.setCell ?_ ?_ _); rotate_left; (· first | exact Nat.le_refl _ | (simp; done) | (simp; omega))) | with_reducible refine below_drewN ?_ _ | with_reducible refine Below.drew ?_ | with_reducible refine below_then ?_ (by with_reducible assumption)))
  have zw6 := hx.size
  replace hb := below_then hb hx
  replace h0a := h0a.below hx (by omega)
  replace h1a := h1a.below hx (by omega)
  replace h6a := h6a.below hx (by omega)
  replace ow := ow.below hx (by omega)
  replace o0ax := o0ax.below hx
  replace o1ax := o1ax.below hx
  replace o6ax := o6ax.below hx
  replace og := og.below hx
  replace ka0 := below_cell hx ka0
  replace ka1 := below_cell hx ka1
  replace ka2 := below_cell hx ka2
  replace ka3 := below_cell hx ka3
  replace ka4 := below_cell hx ka4
  replace ka5 := below_cell hx ka5
  replace ka6 := below_cell hx ka6
  replace ja0 := below_cell hx ja0
  replace ja1 := below_cell hx ja1
  replace ja2 := below_cell hx ja2
  replace ja3 := below_cell hx ja3
  replace ja4 := below_cell hx ja4
  replace ja5 := below_cell hx ja5
  replace ja6 := below_cell hx ja6
  clear hx
  clear b
  have hE := eqB_true (rfl : (s0a, s1a, x2a, x3a, x4a, x5a, s6a) = (s0a, s1a, x2a, x3a, x4a, x5a, s6a))
  go_wp2_with fail
  go_region_held3 (fun W => W.cell? ⟨w.heap.size, 0, none⟩ = some (.slice A0a n0a c0a) ∧ W.cell? ⟨w.heap.size, 1, none⟩ = some (.slice A1a n1a c1a) ∧ W.cell? ⟨w.heap.size, 2, none⟩ = some (.int .i64 x2a) ∧ W.cell? ⟨w.heap.size, 3, none⟩ = some (.int .i64 x3a) ∧ W.cell? ⟨w.heap.size, 4, none⟩ = some (.int .i64 x4a) ∧ W.cell? ⟨w.heap.size, 5, none⟩ = some (.int .i64 x5a) ∧ W.cell? ⟨w.heap.size, 6, none⟩ = some (.slice A6a n6a c6a) ∧ W.cell? ⟨w4.heap.size, 0, none⟩ = some (.slice A0ax n0ax c0ax) ∧ W.cell? ⟨w4.heap.size, 1, none⟩ = some (.slice A1ax n1ax c1ax) ∧ W.cell? ⟨w4.heap.size, 2, none⟩ = some (.int .i64 x2a) ∧ W.cell? ⟨w4.heap.size, 3, none⟩ = some (.int .i64 x3a) ∧ W.cell? ⟨w4.heap.size, 4, none⟩ = some (.int .i64 x4a) ∧ W.cell? ⟨w4.heap.size, 5, none⟩ = some (.int .i64 x5a) ∧ W.cell? ⟨w4.heap.size, 6, none⟩ = some (.slice A6ax n6ax c6ax))
    (first | exact ⟨ka0, ka1, ka2, ka3, ka4, ka5, ka6, ja0, ja1, ja2, ja3, ja4, ja5, ja6⟩ | exact ⟨below_cell bw7 ka0, below_cell bw7 ka1, below_cell bw7 ka2, below_cell bw7 ka3, below_cell bw7 ka4, below_cell bw7 ka5, below_cell bw7 ka6, below_cell bw7 ja0, below_cell bw7 ja1, below_cell bw7 ja2, below_cell bw7 ja3, below_cell bw7 ja4, below_cell bw7 ja5, below_cell bw7 ja6⟩ | exact ⟨below_cell bw8 (below_cell bw7 ka0), below_cell bw8 (below_cell bw7 ka1), below_cell bw8 (below_cell bw7 ka2), below_cell bw8 (below_cell bw7 ka3), below_cell bw8 (below_cell bw7 ka4), below_cell bw8 (below_cell bw7 ka5), below_cell bw8 (below_cell bw7 ka6), below_cell bw8 (below_cell bw7 ja0), below_cell bw8 (below_cell bw7 ja1), below_cell bw8 (below_cell bw7 ja2), below_cell bw8 (below_cell bw7 ja3), below_cell bw8 (below_cell bw7 ja4), below_cell bw8 (below_cell bw7 ja5), below_cell bw8 (below_cell bw7 ja6)⟩)
    (first | (go_at_call 23; ((with_reducible refine (lawsToVm _ 0 _ A0a n0a c0a s0a A1a n1a c1a s1a x2a x3a x4a x5a A6a n6a c6a s6a (h0a.up (by omega) (by (repeat (first | with_reducible exact Below.refl _ _ | with_reducible assumption | with_reducible refine below_alloc ?_ _ | ((with_reducible refine Below.setCell ?_ ?_ _); rotate_left; (· first | exact Nat.le_refl _ | (simp; done) | (simp; omega))) | with_reducible refine below_drewN ?_ _ | with_reducible refine Below.drew ?_ | with_reducible refine below_then ?_ (by with_reducible assumption))))) (h1a.up (by omega) (by (repeat (first | with_reducible exact Below.refl _ _ | with_reducible assumption | with_reducible refine below_alloc ?_ _ | ((with_reducible refine Below.setCell ?_ ?_ _); rotate_left; (· first | exact Nat.le_refl _ | (simp; done) | (simp; omega))) | with_reducible refine below_drewN ?_ _ | with_reducible refine Below.drew ?_ | with_reducible refine below_then ?_ (by with_reducible assumption))))) (h6a.up (by omega) (by (repeat (first | with_reducible exact Below.refl _ _ | with_reducible assumption | with_reducible refine below_alloc ?_ _ | ((with_reducible refine Below.setCell ?_ ?_ _); rotate_left; (· first | exact Nat.le_refl _ | (simp; done) | (simp; omega))) | with_reducible refine below_drewN ?_ _ | with_reducible refine Below.drew ?_ | with_reducible refine below_then ?_ (by with_reducible assumption))))) (Nat.le_refl _) mm0a mm1a mm6a i2a i3a i4a i5a).mono ?_); rintro e w7 ⟨Fay, A0ay, n0ay, c0ay, A1ay, n1ay, c1ay, A6ay, n6ay, c6ay, rfl, oay, fay, bw7⟩)) | (go_at_call 26; ((with_reducible refine (lawsEqVm _ 0 _ 0 _ A0ax n0ax c0ax s0a A1ax n1ax c1ax s1a x2a x3a x4a x5a A6ax n6ax c6ax s6a A0ay n0ay c0ay s0a A1ay n1ay c1ay s1a x2a x3a x4a x5a A6ay n6ay c6ay s6a (o0ax.sl.next (by (repeat (first | with_reducible exact Below.refl _ _ | with_reducible assumption | with_reducible refine below_alloc ?_ _ | ((with_reducible refine Below.setCell ?_ ?_ _); rotate_left; (· first | exact Nat.le_refl _ | (simp; done) | (simp; omega))) | with_reducible refine below_drewN ?_ _ | with_reducible refine Below.drew ?_ | with_reducible refine below_then ?_ (by with_reducible assumption))))) (o1ax.sl.next (by (repeat (first | with_reducible exact Below.refl _ _ | with_reducible assumption | with_reducible refine below_alloc ?_ _ | ((with_reducible refine Below.setCell ?_ ?_ _); rotate_left; (· first | exact Nat.le_refl _ | (simp; done) | (simp; omega))) | with_reducible refine below_drewN ?_ _ | with_reducible refine Below.drew ?_ | with_reducible refine below_then ?_ (by with_reducible assumption))))) (o6ax.sl.next (by (repeat (first | with_reducible exact Below.refl _ _ | with_reducible assumption | with_reducible refine below_alloc ?_ _ | ((with_reducible refine Below.setCell ?_ ?_ _); rotate_left; (· first | exact Nat.le_refl _ | (simp; done) | (simp; omega))) | with_reducible refine below_drewN ?_ _ | with_reducible refine Below.drew ?_ | with_reducible refine below_then ?_ (by with_reducible assumption))))) ((Vm_sl0 oay).next (by (repeat (first | with_reducible exact Below.refl _ _ | with_reducible assumption | with_reducible refine below_alloc ?_ _ | ((with_reducible refine Below.setCell ?_ ?_ _); rotate_left; (· first | exact Nat.le_refl _ | (simp; done) | (simp; omega))) | with_reducible refine below_drewN ?_ _ | with_reducible refine Below.drew ?_ | with_reducible refine below_then ?_ (by with_reducible assumption))))) ((Vm_sl1 oay).next (by (repeat (first | with_reducible exact Below.refl _ _ | with_reducible assumption | with_reducible refine below_alloc ?_ _ | ((with_reducible refine Below.setCell ?_ ?_ _); rotate_left; (· first | exact Nat.le_refl _ | (simp; done) | (simp; omega))) | with_reducible refine below_drewN ?_ _ | with_reducible refine Below.drew ?_ | with_reducible refine below_then ?_ (by with_reducible assumption))))) ((Vm_sl6 oay).next (by (repeat (first | with_reducible exact Below.refl _ _ | with_reducible assumption | with_reducible refine below_alloc ?_ _ | ((with_reducible refine Below.setCell ?_ ?_ _); rotate_left; (· first | exact Nat.le_refl _ | (simp; done) | (simp; omega))) | with_reducible refine below_drewN ?_ _ | with_reducible refine Below.drew ?_ | with_reducible refine below_then ?_ (by with_reducible assumption))))) (Nat.le_refl _) (Nat.le_refl _)).mono ?_); rintro e w8 ⟨rfl, bw8⟩)))
  have hx : Below w6.heap.size w6 w8 := by (repeat (first | with_reducible exact Below.refl _ _ | with_reducible assumption | with_reducible refine below_alloc ?_ _ | ((with_reducible refine Below.setCell ?_ ?_ _); rotate_left; (· first | exact Nat.le_refl _ | (simp; done) | (simp; omega))) | with_reducible refine below_drewN ?_ _ | with_reducible refine Below.drew ?_ | with_reducible refine below_then ?_ (by with_reducible assumption)))
  have zw8 := hx.size
  replace hb := below_then hb hx
  replace h0a := h0a.below hx (by omega)
  replace h1a := h1a.below hx (by omega)
  replace h6a := h6a.below hx (by omega)
  replace ow := ow.below hx (by omega)
  replace o0ax := o0ax.below hx
  replace o1ax := o1ax.below hx
  replace o6ax := o6ax.below hx
  replace og := og.below hx
  replace ka0 := below_cell hx ka0
  replace ka1 := below_cell hx ka1
  replace ka2 := below_cell hx ka2
  replace ka3 := below_cell hx ka3
  replace ka4 := below_cell hx ka4
  replace ka5 := below_cell hx ka5
  replace ka6 := below_cell hx ka6
  replace ja0 := below_cell hx ja0
  replace ja1 := below_cell hx ja1
  replace ja2 := below_cell hx ja2
  replace ja3 := below_cell hx ja3
  replace ja4 := below_cell hx ja4
  replace ja5 := below_cell hx ja5
  replace ja6 := below_cell hx ja6
  clear hx
  clear bw8 bw7 oay fay hE
  go_wp2_with fail
  have ct0 := cntFrame_le s0a
  have ct1 := cntInt_le s1a
  have ct6 := cntNote_le s6a
  refine (mkVmTop _ A0ax n0ax c0ax s0a A1ax n1ax c1ax s1a x2a x3a x4a x5a A6ax n6ax c6ax s6a 1 F0ax F1ax F6ax o0ax o1ax o6ax ndax (by omega) (by omega)).mono ?_
  rintro e w9 ⟨rax, rfl, qr, om0, om1, om6, hf⟩
  clear om0 om1 om6
  have hr0ax : 0 ≤ rax := by omega
  have hr1ax : rax ≤ 1099511627776 := by omega
  clear qr
  clear ct0 ct1 ct6
  have zw9 := hf.size
  replace hb := below_fr hb hf (fun k hk => by have := fax k hk; omega)
  replace h0a := h0a.fr hf (by omega) (fun k hk => Or.inr (by have := fax k hk; omega))
  replace h1a := h1a.fr hf (by omega) (fun k hk => Or.inr (by have := fax k hk; omega))
  replace h6a := h6a.fr hf (by omega) (fun k hk => Or.inr (by have := fax k hk; omega))
  replace ow := ow.fr hf (by omega) (fun k hk => Or.inr (by have := fax k hk; omega))
  replace og := og.fr hf (fun k hk hk' => by have := fg k hk; have := Lg k hk; have := fax k hk'; have := Lax k hk'; omega)
  replace ka0 := cell_fr hf (fun hk => by have := fax _ hk; omega) ka0
  replace ka1 := cell_fr hf (fun hk => by have := fax _ hk; omega) ka1
  replace ka2 := cell_fr hf (fun hk => by have := fax _ hk; omega) ka2
  replace ka3 := cell_fr hf (fun hk => by have := fax _ hk; omega) ka3
  replace ka4 := cell_fr hf (fun hk => by have := fax _ hk; omega) ka4
  replace ka5 := cell_fr hf (fun hk => by have := fax _ hk; omega) ka5
  replace ka6 := cell_fr hf (fun hk => by have := fax _ hk; omega) ka6
  replace ja0 := cell_fr hf (fun hk => by have := fax _ hk; have := Lax _ hk; omega) ja0
  replace ja1 := cell_fr hf (fun hk => by have := fax _ hk; have := Lax _ hk; omega) ja1
  replace ja2 := cell_fr hf (fun hk => by have := fax _ hk; have := Lax _ hk; omega) ja2
  replace ja3 := cell_fr hf (fun hk => by have := fax _ hk; have := Lax _ hk; omega) ja3
  replace ja4 := cell_fr hf (fun hk => by have := fax _ hk; have := Lax _ hk; omega) ja4
  replace ja5 := cell_fr hf (fun hk => by have := fax _ hk; have := Lax _ hk; omega) ja5
  replace ja6 := cell_fr hf (fun hk => by have := fax _ hk; have := Lax _ hk; omega) ja6
  clear hf
  clear zja ja0 ja1 ja2 ja3 ja4 ja5 ja6
  go_wp2_with fail
  refine (lawsEqIntS _ 0 _ 0 _ ng nw cg cw Ag Aw _ _ og.sl (ow.more (Nat.le_refl _) (by omega)) (Nat.le_refl _) (Nat.le_refl _)).mono ?_
  rintro e w10 ⟨rfl, b⟩
  have hx : Below w9.heap.size w9 w10 := by (repeat (first | with_reducible exact Below.refl _ _ | with_reducible assumption | with_reducible refine below_alloc ?_ _ | ((with_reducible refine Below.setCell ?_ ?_ _); rotate_left; (· first | exact Nat.le_refl _ | (simp; done) | (simp; omega))) | with_reducible refine below_drewN ?_ _ | with_reducible refine Below.drew ?_ | with_reducible refine below_then ?_ (by with_reducible assumption)))
  have zw10 := hx.size
  replace hb := below_then hb hx
  replace h0a := h0a.below hx (by omega)
  replace h1a := h1a.below hx (by omega)
  replace h6a := h6a.below hx (by omega)
  replace ow := ow.below hx (by omega)
  replace og := og.below hx
  replace ka0 := below_cell hx ka0
  replace ka1 := below_cell hx ka1
  replace ka2 := below_cell hx ka2
  replace ka3 := below_cell hx ka3
  replace ka4 := below_cell hx ka4
  replace ka5 := below_cell hx ka5
  replace ka6 := below_cell hx ka6
  clear hx
  clear b
  have ct := cntInt_le (waitR s0a vb)
  have ct2 : cntL cntInt (waitR s0a vb) ≤ 17592186044416 := by have := hRes.out; omega
  clear ct
  go_wp2_with fail
  refine (mkInts _ ng cg Ag Fg _ 1 og (by omega) (by omega)).mono ?_
  rintro e w11 ⟨rm, rfl, qm, om, hf⟩
  have zw11 := hf.size
  replace hb := below_fr hb hf (fun k hk => by have := fg k hk; omega)
  replace h0a := h0a.fr hf (by omega) (fun k hk => Or.inr (by have := fg k hk; omega))
  replace h1a := h1a.fr hf (by omega) (fun k hk => Or.inr (by have := fg k hk; omega))
  replace h6a := h6a.fr hf (by omega) (fun k hk => Or.inr (by have := fg k hk; omega))
  replace ow := ow.fr hf (by omega) (fun k hk => Or.inr (by have := fg k hk; omega))
  replace ka0 := cell_fr hf (fun hk => by have := fg _ hk; omega) ka0
  replace ka1 := cell_fr hf (fun hk => by have := fg _ hk; omega) ka1
  replace ka2 := cell_fr hf (fun hk => by have := fg _ hk; omega) ka2
  replace ka3 := cell_fr hf (fun hk => by have := fg _ hk; omega) ka3
  replace ka4 := cell_fr hf (fun hk => by have := fg _ hk; omega) ka4
  replace ka5 := cell_fr hf (fun hk => by have := fg _ hk; omega) ka5
  replace ka6 := cell_fr hf (fun hk => by have := fg _ hk; omega) ka6
  clear hf og
  have og := om
  clear om
  have pm : 0 ≤ rm := by omega
  replace qm := Lib.hid qm
  go_wp2_with fail
  refine (hdInts _ 0 _ ng cg Ag _ 1 og.sl (Nat.le_refl _) (by omega) (by omega)).mono ?_
  rintro e w12 ⟨rh, rfl, qh, b⟩
  have hx : Below w11.heap.size w11 w12 := by (repeat (first | with_reducible exact Below.refl _ _ | with_reducible assumption | with_reducible refine below_alloc ?_ _ | ((with_reducible refine Below.setCell ?_ ?_ _); rotate_left; (· first | exact Nat.le_refl _ | (simp; done) | (simp; omega))) | with_reducible refine below_drewN ?_ _ | with_reducible refine Below.drew ?_ | with_reducible refine below_then ?_ (by with_reducible assumption)))
  have zw12 := hx.size
  replace hb := below_then hb hx
  replace h0a := h0a.below hx (by omega)
  replace h1a := h1a.below hx (by omega)
  replace h6a := h6a.below hx (by omega)
  replace ow := ow.below hx (by omega)
  replace og := og.below hx
  replace ka0 := below_cell hx ka0
  replace ka1 := below_cell hx ka1
  replace ka2 := below_cell hx ka2
  replace ka3 := below_cell hx ka3
  replace ka4 := below_cell hx ka4
  replace ka5 := below_cell hx ka5
  replace ka6 := below_cell hx ka6
  clear hx
  clear b
  obtain rfl : rm = rh := qm.out.trans qh.symm
  clear qh
  go_wp2_with fail
  refine (lawsToVm _ 0 _ A0a n0a c0a s0a A1a n1a c1a s1a x2a x3a x4a x5a A6a n6a c6a s6a (h0a.up (by omega) (by (repeat (first | with_reducible exact Below.refl _ _ | with_reducible assumption | with_reducible refine below_alloc ?_ _ | ((with_reducible refine Below.setCell ?_ ?_ _); rotate_left; (· first | exact Nat.le_refl _ | (simp; done) | (simp; omega))) | with_reducible refine below_drewN ?_ _ | with_reducible refine Below.drew ?_ | with_reducible refine below_then ?_ (by with_reducible assumption))))) (h1a.up (by omega) (by (repeat (first | with_reducible exact Below.refl _ _ | with_reducible assumption | with_reducible refine below_alloc ?_ _ | ((with_reducible refine Below.setCell ?_ ?_ _); rotate_left; (· first | exact Nat.le_refl _ | (simp; done) | (simp; omega))) | with_reducible refine below_drewN ?_ _ | with_reducible refine Below.drew ?_ | with_reducible refine below_then ?_ (by with_reducible assumption))))) (h6a.up (by omega) (by (repeat (first | with_reducible exact Below.refl _ _ | with_reducible assumption | with_reducible refine below_alloc ?_ _ | ((with_reducible refine Below.setCell ?_ ?_ _); rotate_left; (· first | exact Nat.le_refl _ | (simp; done) | (simp; omega))) | with_reducible refine below_drewN ?_ _ | with_reducible refine Below.drew ?_ | with_reducible refine below_then ?_ (by with_reducible assumption))))) (Nat.le_refl _) mm0a mm1a mm6a i2a i3a i4a i5a).mono ?_
  rintro e w13 ⟨Faz, A0az, n0az, c0az, A1az, n1az, c1az, A6az, n6az, c6az, rfl, oaz, faz, b⟩
  have hx : Below w12.heap.size w12 w13 := by (repeat (first | with_reducible exact Below.refl _ _ | with_reducible assumption | with_reducible refine below_alloc ?_ _ | ((with_reducible refine Below.setCell ?_ ?_ _); rotate_left; (· first | exact Nat.le_refl _ | (simp; done) | (simp; omega))) | with_reducible refine below_drewN ?_ _ | with_reducible refine Below.drew ?_ | with_reducible refine below_then ?_ (by with_reducible assumption)))
  have zw13 := hx.size
  replace hb := below_then hb hx
  replace h0a := h0a.below hx (by omega)
  replace h1a := h1a.below hx (by omega)
  replace h6a := h6a.below hx (by omega)
  replace ow := ow.below hx (by omega)
  replace og := og.below hx
  replace ka0 := below_cell hx ka0
  replace ka1 := below_cell hx ka1
  replace ka2 := below_cell hx ka2
  replace ka3 := below_cell hx ka3
  replace ka4 := below_cell hx ka4
  replace ka5 := below_cell hx ka5
  replace ka6 := below_cell hx ka6
  clear hx
  clear b
  go_wp2_with fail
  refine (implWaitingInC _ A0az n0az c0az s0a A1az n1az c1az s1a x2a x3a x4a x5a A6az n6az c6az s6a vb ((Vm_sl0 oaz).next (by (repeat (first | with_reducible exact Below.refl _ _ | with_reducible assumption | with_reducible refine below_alloc ?_ _ | ((with_reducible refine Below.setCell ?_ ?_ _); rotate_left; (· first | exact Nat.le_refl _ | (simp; done) | (simp; omega))) | with_reducible refine below_drewN ?_ _ | with_reducible refine Below.drew ?_ | with_reducible refine below_then ?_ (by with_reducible assumption))))) ((Vm_sl1 oaz).next (by (repeat (first | with_reducible exact Below.refl _ _ | with_reducible assumption | with_reducible refine below_alloc ?_ _ | ((with_reducible refine Below.setCell ?_ ?_ _); rotate_left; (· first | exact Nat.le_refl _ | (simp; done) | (simp; omega))) | with_reducible refine below_drewN ?_ _ | with_reducible refine Below.drew ?_ | with_reducible refine below_then ?_ (by with_reducible assumption))))) ((Vm_sl6 oaz).next (by (repeat (first | with_reducible exact Below.refl _ _ | with_reducible assumption | with_reducible refine below_alloc ?_ _ | ((with_reducible refine Below.setCell ?_ ?_ _); rotate_left; (· first | exact Nat.le_refl _ | (simp; done) | (simp; omega))) | with_reducible refine below_drewN ?_ _ | with_reducible refine Below.drew ?_ | with_reducible refine below_then ?_ (by with_reducible assumption))))) mm0a mm1a mm6a i2a i3a i4a i5a ib).mono ?_
  rintro e w14 ⟨Fh, Ah, nh, ch, rfl, oh, fh, b⟩
  have hx : Below w13.heap.size w13 w14 := by (repeat (first | with_reducible exact Below.refl _ _ | with_reducible assumption | with_reducible refine below_alloc ?_ _ | ((with_reducible refine Below.setCell ?_ ?_ _); rotate_left; (· first | exact Nat.le_refl _ | (simp; done) | (simp; omega))) | with_reducible refine below_drewN ?_ _ | with_reducible refine Below.drew ?_ | with_reducible refine below_then ?_ (by with_reducible assumption)))
  have zw14 := hx.size
  replace hb := below_then hb hx
  replace h0a := h0a.below hx (by omega)
  replace h1a := h1a.below hx (by omega)
  replace h6a := h6a.below hx (by omega)
  replace ow := ow.below hx (by omega)
  replace og := og.below hx
  replace ka0 := below_cell hx ka0
  replace ka1 := below_cell hx ka1
  replace ka2 := below_cell hx ka2
  replace ka3 := below_cell hx ka3
  replace ka4 := below_cell hx ka4
  replace ka5 := below_cell hx ka5
  replace ka6 := below_cell hx ka6
  clear hx
  clear b
  clear oaz faz
  go_wp2_with fail
  refine (lawsEqIntS _ 0 _ 0 _ nh nw ch cw Ah Aw _ _ oh.sl (ow.more (Nat.le_refl _) (by omega)) (Nat.le_refl _) (Nat.le_refl _)).mono ?_
  rintro e w15 ⟨rfl, b⟩
  have hx : Below w14.heap.size w14 w15 := by (repeat (first | with_reducible exact Below.refl _ _ | with_reducible assumption | with_reducible refine below_alloc ?_ _ | ((with_reducible refine Below.setCell ?_ ?_ _); rotate_left; (· first | exact Nat.le_refl _ | (simp; done) | (simp; omega))) | with_reducible refine below_drewN ?_ _ | with_reducible refine Below.drew ?_ | with_reducible refine below_then ?_ (by with_reducible assumption)))
  have zw15 := hx.size
  replace hb := below_then hb hx
  replace h0a := h0a.below hx (by omega)
  replace h1a := h1a.below hx (by omega)
  replace h6a := h6a.below hx (by omega)
  replace ow := ow.below hx (by omega)
  replace og := og.below hx
  replace oh := oh.below hx
  replace ka0 := below_cell hx ka0
  replace ka1 := below_cell hx ka1
  replace ka2 := below_cell hx ka2
  replace ka3 := below_cell hx ka3
  replace ka4 := below_cell hx ka4
  replace ka5 := below_cell hx ka5
  replace ka6 := below_cell hx ka6
  clear hx
  clear b
  clear oh fh
  go_wp2_with fail
  refine (hdInts _ 0 _ ng cg Ag _ 1 og.sl (Nat.le_refl _) (by omega) (by omega)).mono ?_
  rintro e w16 ⟨rh, rfl, qh, b⟩
  have hx : Below w15.heap.size w15 w16 := by (repeat (first | with_reducible exact Below.refl _ _ | with_reducible assumption | with_reducible refine below_alloc ?_ _ | ((with_reducible refine Below.setCell ?_ ?_ _); rotate_left; (· first | exact Nat.le_refl _ | (simp; done) | (simp; omega))) | with_reducible refine below_drewN ?_ _ | with_reducible refine Below.drew ?_ | with_reducible refine below_then ?_ (by with_reducible assumption)))
  have zw16 := hx.size
  replace hb := below_then hb hx
  replace h0a := h0a.below hx (by omega)
  replace h1a := h1a.below hx (by omega)
  replace h6a := h6a.below hx (by omega)
  replace ow := ow.below hx (by omega)
  replace og := og.below hx
  replace ka0 := below_cell hx ka0
  replace ka1 := below_cell hx ka1
  replace ka2 := below_cell hx ka2
  replace ka3 := below_cell hx ka3
  replace ka4 := below_cell hx ka4
  replace ka5 := below_cell hx ka5
  replace ka6 := below_cell hx ka6
  clear hx
  clear b
  obtain rfl : rm = rh := qm.out.trans qh.symm
  clear qh
  go_wp2_with fail
  go_ret
  exact RetB.mk rfl hb

theorem fnWaitingInA (w : World) (csa : Array Value) (ea : Vm) (hla : VmR.rel w 0 w.heap.size csa.toList ea) (vb : Int) (ib : I64 vb) :
    Calls Try.prog 5 #[.agg csa, .int .i64 vb] w (RetB true w) := by
  obtain ⟨A0a, n0a, c0a, s0a, A1a, n1a, c1a, s1a, x2a, x3a, x4a, x5a, A6a, n6a, c6a, s6a, hca, hea, h0a, h1a, i2a, i3a, i4a, i5a, h6a⟩ := Vm_rel hla
  obtain ⟨csa⟩ := csa
  simp only at hca
  subst hca hea
  exact fnWaitingIn w A0a n0a c0a s0a A1a n1a c1a s1a x2a x3a x4a x5a A6a n6a c6a s6a vb h0a h1a h6a i2a i3a i4a i5a ib

end Go.Proofs.Ytfilenabhjjidaa
