/- Marks over slices of Vm. Printed by markgen.py. Walks. -/
import Derived.Test.YtfilenabhjjidaaMk
import Derived.Test.YtfilenabhjjidaaTyVm
import Derived.Test.YtfilenabhjjidaaMkFrame
import Derived.Test.YtfilenabhjjidaaMkNote
set_option linter.unusedVariables false
set_option linter.unusedSimpArgs false
set_option linter.unnecessarySimpa false
set_option maxRecDepth 100000
namespace Go.Proofs.Ytfilenabhjjidaa
open Go.RowKit

def cntVm (x : Vm) : Nat := cntL cntFrame (x.1) + cntL cntInt (x.2.1) + 1 + 1 + 1 + 1 + cntL cntNote (x.2.2.2.2.2.2)
def mkVm (k : Int) (x : Vm) : Vm := (mkL mkFrame cntFrame k (x.1), mkL mkInt cntInt (k + (cntL cntFrame (x.1) : Int)) (x.2.1), ((k + (cntL cntFrame (x.1) : Int)) + (cntL cntInt (x.2.1) : Int)), (((k + (cntL cntFrame (x.1) : Int)) + (cntL cntInt (x.2.1) : Int)) + 1), ((((k + (cntL cntFrame (x.1) : Int)) + (cntL cntInt (x.2.1) : Int)) + 1) + 1), (((((k + (cntL cntFrame (x.1) : Int)) + (cntL cntInt (x.2.1) : Int)) + 1) + 1) + 1), mkL mkNote cntNote ((((((k + (cntL cntFrame (x.1) : Int)) + (cntL cntInt (x.2.1) : Int)) + 1) + 1) + 1) + 1) (x.2.2.2.2.2.2))
theorem Vm_ownx {w : World} {F : List Nat} {cs : List Value} {x : Vm} (h : VmR.own w F cs x) : ∃ A0 n0 c0 s0 A1 n1 c1 s1 x2 x3 x4 x5 A6 n6 c6 s6 F0 F1 F6, cs = ([.slice A0 n0 c0, .slice A1 n1 c1, .int .i64 x2, .int .i64 x3, .int .i64 x4, .int .i64 x5, .slice A6 n6 c6] : List Value) ∧ x = (s0, s1, x2, x3, x4, x5, s6) ∧ F = (F0 ++ (F1 ++ F6)) ∧ ((F0 ++ (F1 ++ F6)) : List Nat).Nodup ∧ OwnSl FrameR w 127 F0 (.slice A0 n0 c0) s0 ∧ OwnSl intR w 3 F1 (.slice A1 n1 c1) s1 ∧ I64 x2 ∧ I64 x3 ∧ I64 x4 ∧ I64 x5 ∧ OwnSl noteR w 112 F6 (.slice A6 n6 c6) s6 := by
  obtain ⟨_, _, F0, _, rfl, rfl, ⟨A0, n0, c0, rfl, o0⟩, ⟨_, _, F1, _, rfl, rfl, ⟨A1, n1, c1, rfl, o1⟩, ⟨_, _, _, _, rfl, rfl, ⟨rfl, rfl, i2⟩, ⟨_, _, _, _, rfl, rfl, ⟨rfl, rfl, i3⟩, ⟨_, _, _, _, rfl, rfl, ⟨rfl, rfl, i4⟩, ⟨_, _, _, F6, rfl, rfl, ⟨rfl, rfl, i5⟩, ⟨A6, n6, c6, rfl, o6⟩, nd5⟩, nd4⟩, nd3⟩, nd2⟩, nd1⟩, nd0⟩ := h
  exact ⟨A0, n0, c0, x.1, A1, n1, c1, x.2.1, x.2.2.1, x.2.2.2.1, x.2.2.2.2.1, x.2.2.2.2.2.1, A6, n6, c6, x.2.2.2.2.2.2, F0, F1, F6, rfl, rfl, by simp, by simpa using nd0, o0, o1, i2, i3, i4, i5, o6⟩
set_option maxHeartbeats 1000000 in
theorem mkVmTop (w : World) (A0 : Option Addr) (n0 c0 : Nat) (s0 : List Frame) (A1 : Option Addr) (n1 c1 : Nat) (s1 : List Int) (x2 : Int) (x3 : Int) (x4 : Int) (x5 : Int) (A6 : Option Addr) (n6 c6 : Nat) (s6 : List Note) (k : Int) (F0 F1 F6 : List Nat) (o0 : OwnSl FrameR w 127 F0 (.slice A0 n0 c0) s0) (o1 : OwnSl intR w 3 F1 (.slice A1 n1 c1) s1) (o6 : OwnSl noteR w 112 F6 (.slice A6 n6 c6) s6) (hnd : ((F0 ++ (F1 ++ F6)) : List Nat).Nodup) (h1 : 0 ≤ k) (h2 : k + (cntL cntFrame s0 + cntL cntInt s1 + cntL cntNote s6 : Nat) ≤ 1152921504606846976) :
    Calls Try.prog 27 #[.agg #[.slice A0 n0 c0, .slice A1 n1 c1, .int .i64 x2, .int .i64 x3, .int .i64 x4, .int .i64 x5, .slice A6 n6 c6], .int .i64 k] w fun e w' => ∃ r, e = .returned (.int .i64 r) ∧ r = k + (cntL cntFrame s0 + cntL cntInt s1 + cntL cntNote s6 : Nat) ∧ OwnSl FrameR w' 127 F0 (.slice A0 n0 c0) (mkL mkFrame cntFrame k s0) ∧ OwnSl intR w' 3 F1 (.slice A1 n1 c1) (mkL mkInt cntInt (k + (cntL cntFrame s0 : Int)) s1) ∧ OwnSl noteR w' 112 F6 (.slice A6 n6 c6) (mkL mkNote cntNote ((k + (cntL cntFrame s0 : Int)) + (cntL cntInt s1 : Int)) s6) ∧ Fr (F0 ++ (F1 ++ F6)) w w' := by
  have D01 : ∀ z, z ∈ F0 → z ∉ F1 := fun z h1 h2 => (List.nodup_append.1 hnd).2.2 z h1 z (List.mem_append_left _ h2) rfl
  have D10 : ∀ z, z ∈ F1 → z ∉ F0 := fun z h1 h2 => D01 z h2 h1
  have D06 : ∀ z, z ∈ F0 → z ∉ F6 := fun z h1 h2 => (List.nodup_append.1 hnd).2.2 z h1 z (List.mem_append_right _ h2) rfl
  have D60 : ∀ z, z ∈ F6 → z ∉ F0 := fun z h1 h2 => D06 z h2 h1
  have D16 : ∀ z, z ∈ F1 → z ∉ F6 := fun z h1 h2 => (List.nodup_append.1 (List.nodup_append.1 hnd).2.1).2.2 z h1 z h2 rfl
  have D61 : ∀ z, z ∈ F6 → z ∉ F1 := fun z h1 h2 => D16 z h2 h1
  have q0 : ∀ z, z ∈ F0 → z < w.heap.size := o0.lt
  have q1 : ∀ z, z ∈ F1 → z < w.heap.size := o1.lt
  have q6 : ∀ z, z ∈ F6 → z < w.heap.size := o6.lt
  go_enter Try.func27, Try.ntmps27
  go_wp2_with fail
  refine (mkFrames _ n0 c0 A0 F0 s0 k (o0.below (by (repeat (first | with_reducible exact Below.refl _ _ | with_reducible assumption | with_reducible refine below_alloc ?_ _ | ((with_reducible refine Below.setCell ?_ ?_ _); rotate_left; (· first | exact Nat.le_refl _ | (simp; done) | (simp; omega))) | with_reducible refine below_drewN ?_ _ | with_reducible refine Below.drew ?_ | with_reducible refine below_then ?_ (by with_reducible assumption))))) (by omega) (by omega)).mono ?_
  rintro e w0 ⟨k0, rfl, hk0, p0, f0⟩
  have hq0 := Lib.hid hk0
  have z0 : 0 ≤ k0 := by omega
  have y0 : k0 + (cntL cntInt s1 + cntL cntNote s6 : Nat) ≤ 1152921504606846976 := by omega
  clear hk0
  have fa : Fr (F0 ++ (F1 ++ F6)) w w0 := fr_then (f0.more (fun q hq => by simp [hq])) (Fr.of_below (by (repeat (first | with_reducible exact Below.refl _ _ | with_reducible assumption | with_reducible refine below_alloc ?_ _ | ((with_reducible refine Below.setCell ?_ ?_ _); rotate_left; (· first | exact Nat.le_refl _ | (simp; done) | (simp; omega))) | with_reducible refine below_drewN ?_ _ | with_reducible refine Below.drew ?_ | with_reducible refine below_then ?_ (by with_reducible assumption)))))
  replace o1 : OwnSl intR w0 3 F1 (.slice A1 n1 c1) s1 := (OwnSl.fr (o1.below (by (repeat (first | with_reducible exact Below.refl _ _ | with_reducible assumption | with_reducible refine below_alloc ?_ _ | ((with_reducible refine Below.setCell ?_ ?_ _); rotate_left; (· first | exact Nat.le_refl _ | (simp; done) | (simp; omega))) | with_reducible refine below_drewN ?_ _ | with_reducible refine Below.drew ?_ | with_reducible refine below_then ?_ (by with_reducible assumption))))) f0 D10)
  replace o6 : OwnSl noteR w0 112 F6 (.slice A6 n6 c6) s6 := (OwnSl.fr (o6.below (by (repeat (first | with_reducible exact Below.refl _ _ | with_reducible assumption | with_reducible refine below_alloc ?_ _ | ((with_reducible refine Below.setCell ?_ ?_ _); rotate_left; (· first | exact Nat.le_refl _ | (simp; done) | (simp; omega))) | with_reducible refine below_drewN ?_ _ | with_reducible refine Below.drew ?_ | with_reducible refine below_then ?_ (by with_reducible assumption))))) f0 D60)
  have bx0 : ∀ o, w0.cell? ⟨w.heap.size, o, none⟩ = (#[.slice A0 n0 c0, .slice A1 n1 c1, .int .i64 x2, .int .i64 x3, .int .i64 x4, .int .i64 x5, .slice A6 n6 c6] : Array Value)[o]? := fun o => by
    rw [World.cell?_of_block (f0.block w.heap.size (by simp) (fun hh => by have := q0 _ hh; omega))]
    exact cell_of_row _ _ _ _ _ _ (heap_alloc_new w _)
  have hs0 : w.heap.size < w0.heap.size := by have := f0.size; first | omega | (simp at this; omega)
  have e0_0 : w0.cell? ⟨w.heap.size, 0, none⟩ = some (.slice A0 n0 c0) := bx0 0
  have e0_1 : w0.cell? ⟨w.heap.size, 1, none⟩ = some (.slice A1 n1 c1) := bx0 1
  have e0_2 : w0.cell? ⟨w.heap.size, 2, none⟩ = some (.int .i64 x2) := bx0 2
  have e0_3 : w0.cell? ⟨w.heap.size, 3, none⟩ = some (.int .i64 x3) := bx0 3
  have e0_4 : w0.cell? ⟨w.heap.size, 4, none⟩ = some (.int .i64 x4) := bx0 4
  have e0_5 : w0.cell? ⟨w.heap.size, 5, none⟩ = some (.int .i64 x5) := bx0 5
  have e0_6 : w0.cell? ⟨w.heap.size, 6, none⟩ = some (.slice A6 n6 c6) := bx0 6
  have bxH0 := Lib.hid bx0
  skip
  go_wp2_with fail
  refine (mkInts _ n1 c1 A1 F1 s1 k0 (o1.below (by (repeat (first | with_reducible exact Below.refl _ _ | with_reducible assumption | with_reducible refine below_alloc ?_ _ | ((with_reducible refine Below.setCell ?_ ?_ _); rotate_left; (· first | exact Nat.le_refl _ | (simp; done) | (simp; omega))) | with_reducible refine below_drewN ?_ _ | with_reducible refine Below.drew ?_ | with_reducible refine below_then ?_ (by with_reducible assumption))))) (by omega) (by omega)).mono ?_
  rintro e w1 ⟨k1, rfl, hk1, p1, f1⟩
  have hq1 := Lib.hid hk1
  have z1 : 0 ≤ k1 := by omega
  have y1 : k1 + (cntL cntNote s6 : Nat) ≤ 1152921504606846976 := by omega
  clear hk1
  replace fa : Fr (F0 ++ (F1 ++ F6)) w w1 := fr_then (f1.more (fun q hq => by simp [hq])) (by (repeat (first | with_reducible exact Fr.refl _ _ | with_reducible assumption | ((with_reducible refine Fr.setCell ?_ ?_ _); rotate_left; (· first | (simp; done) | assumption | (simp; assumption))) | with_reducible refine Fr.drewN ?_ _ | with_reducible refine Fr.drew ?_ | with_reducible refine Fr.alloc ?_ _ | with_reducible refine Fr.trans ?_ (Fr.of_below (by with_reducible assumption)))))
  replace p0 := OwnSl.fr (p0.below (by (repeat (first | with_reducible exact Below.refl _ _ | with_reducible assumption | with_reducible refine below_alloc ?_ _ | ((with_reducible refine Below.setCell ?_ ?_ _); rotate_left; (· first | exact Nat.le_refl _ | (simp; done) | (simp; omega))) | with_reducible refine below_drewN ?_ _ | with_reducible refine Below.drew ?_ | with_reducible refine below_then ?_ (by with_reducible assumption))))) f1 D01
  replace o6 : OwnSl noteR w1 112 F6 (.slice A6 n6 c6) s6 := (OwnSl.fr (o6.below (by (repeat (first | with_reducible exact Below.refl _ _ | with_reducible assumption | with_reducible refine below_alloc ?_ _ | ((with_reducible refine Below.setCell ?_ ?_ _); rotate_left; (· first | exact Nat.le_refl _ | (simp; done) | (simp; omega))) | with_reducible refine below_drewN ?_ _ | with_reducible refine Below.drew ?_ | with_reducible refine below_then ?_ (by with_reducible assumption))))) f1 D61)
  have bx1 : ∀ o, w1.cell? ⟨w.heap.size, o, none⟩ = (#[.slice A0 n0 c0, .slice A1 n1 c1, .int .i64 x2, .int .i64 x3, .int .i64 x4, .int .i64 x5, .slice A6 n6 c6] : Array Value)[o]? := fun o => by
    rw [World.cell?_of_block (f1.block w.heap.size (by first | exact hs0 | (simp; exact hs0)) (fun hh => by have := q1 _ hh; omega))]
    exact bx0 o
  have hs1 : w.heap.size < w1.heap.size := by have := f1.size; first | omega | (simp at this; omega)
  have e1_0 : w1.cell? ⟨w.heap.size, 0, none⟩ = some (.slice A0 n0 c0) := bx1 0
  have e1_1 : w1.cell? ⟨w.heap.size, 1, none⟩ = some (.slice A1 n1 c1) := bx1 1
  have e1_2 : w1.cell? ⟨w.heap.size, 2, none⟩ = some (.int .i64 x2) := bx1 2
  have e1_3 : w1.cell? ⟨w.heap.size, 3, none⟩ = some (.int .i64 x3) := bx1 3
  have e1_4 : w1.cell? ⟨w.heap.size, 4, none⟩ = some (.int .i64 x4) := bx1 4
  have e1_5 : w1.cell? ⟨w.heap.size, 5, none⟩ = some (.int .i64 x5) := bx1 5
  have e1_6 : w1.cell? ⟨w.heap.size, 6, none⟩ = some (.slice A6 n6 c6) := bx1 6
  have bxH1 := Lib.hid bx1
  skip
  go_wp2_with fail
  refine (mkNotes _ n6 c6 A6 F6 s6 k1 (o6.below (by (repeat (first | with_reducible exact Below.refl _ _ | with_reducible assumption | with_reducible refine below_alloc ?_ _ | ((with_reducible refine Below.setCell ?_ ?_ _); rotate_left; (· first | exact Nat.le_refl _ | (simp; done) | (simp; omega))) | with_reducible refine below_drewN ?_ _ | with_reducible refine Below.drew ?_ | with_reducible refine below_then ?_ (by with_reducible assumption))))) (by omega) (by omega)).mono ?_
  rintro e w6 ⟨k6, rfl, hk6, p6, f6⟩
  have hq6 := Lib.hid hk6
  have z6 : 0 ≤ k6 := by omega
  have y6 : k6 + (0 : Nat) ≤ 1152921504606846976 := by omega
  clear hk6
  replace fa : Fr (F0 ++ (F1 ++ F6)) w w6 := fr_then (f6.more (fun q hq => by simp [hq])) (by (repeat (first | with_reducible exact Fr.refl _ _ | with_reducible assumption | ((with_reducible refine Fr.setCell ?_ ?_ _); rotate_left; (· first | (simp; done) | assumption | (simp; assumption))) | with_reducible refine Fr.drewN ?_ _ | with_reducible refine Fr.drew ?_ | with_reducible refine Fr.alloc ?_ _ | with_reducible refine Fr.trans ?_ (Fr.of_below (by with_reducible assumption)))))
  replace p0 := OwnSl.fr (p0.below (by (repeat (first | with_reducible exact Below.refl _ _ | with_reducible assumption | with_reducible refine below_alloc ?_ _ | ((with_reducible refine Below.setCell ?_ ?_ _); rotate_left; (· first | exact Nat.le_refl _ | (simp; done) | (simp; omega))) | with_reducible refine below_drewN ?_ _ | with_reducible refine Below.drew ?_ | with_reducible refine below_then ?_ (by with_reducible assumption))))) f6 D06
  replace p1 := OwnSl.fr (p1.below (by (repeat (first | with_reducible exact Below.refl _ _ | with_reducible assumption | with_reducible refine below_alloc ?_ _ | ((with_reducible refine Below.setCell ?_ ?_ _); rotate_left; (· first | exact Nat.le_refl _ | (simp; done) | (simp; omega))) | with_reducible refine below_drewN ?_ _ | with_reducible refine Below.drew ?_ | with_reducible refine below_then ?_ (by with_reducible assumption))))) f6 D16
  have bx6 : ∀ o, w6.cell? ⟨w.heap.size, o, none⟩ = (#[.slice A0 n0 c0, .slice A1 n1 c1, .int .i64 x2, .int .i64 x3, .int .i64 x4, .int .i64 x5, .slice A6 n6 c6] : Array Value)[o]? := fun o => by
    rw [World.cell?_of_block (f6.block w.heap.size (by first | exact hs1 | (simp; exact hs1)) (fun hh => by have := q6 _ hh; omega))]
    exact bx1 o
  have hs6 : w.heap.size < w6.heap.size := by have := f6.size; first | omega | (simp at this; omega)
  have e6_0 : w6.cell? ⟨w.heap.size, 0, none⟩ = some (.slice A0 n0 c0) := bx6 0
  have e6_1 : w6.cell? ⟨w.heap.size, 1, none⟩ = some (.slice A1 n1 c1) := bx6 1
  have e6_2 : w6.cell? ⟨w.heap.size, 2, none⟩ = some (.int .i64 x2) := bx6 2
  have e6_3 : w6.cell? ⟨w.heap.size, 3, none⟩ = some (.int .i64 x3) := bx6 3
  have e6_4 : w6.cell? ⟨w.heap.size, 4, none⟩ = some (.int .i64 x4) := bx6 4
  have e6_5 : w6.cell? ⟨w.heap.size, 5, none⟩ = some (.int .i64 x5) := bx6 5
  have e6_6 : w6.cell? ⟨w.heap.size, 6, none⟩ = some (.slice A6 n6 c6) := bx6 6
  have bxH6 := Lib.hid bx6
  skip
  go_wp2_with fail
  go_ret
  exact ⟨_, rfl, by have a0 := hq0.out; have a1 := hq1.out; have a6 := hq6.out; omega, by have := p0; have a0 := hq0.out; have a1 := hq1.out; have a6 := hq6.out; simpa [a0, a1, a6] using this, by have := p1; have a0 := hq0.out; have a1 := hq1.out; have a6 := hq6.out; simpa [a0, a1, a6] using this, by have := p6; have a0 := hq0.out; have a1 := hq1.out; have a6 := hq6.out; simpa [a0, a1, a6] using this, fa⟩
end Go.Proofs.Ytfilenabhjjidaa
