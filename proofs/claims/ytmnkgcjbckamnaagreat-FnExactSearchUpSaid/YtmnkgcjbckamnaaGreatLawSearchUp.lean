/- For every image and every machine the program's SearchUp returns what the reference's returns: FnExactSearchUp returns true, and its arguments read as they did. No condition beyond the row's own. -/
import Derived.Test.YtmnkgcjbckamnaaGreatSearch
import Derived.Test.YtmnkgcjbckamnaaGreatKit1
import Derived.Deep.RegionHeld3
set_option linter.unusedVariables false
set_option linter.unusedSimpArgs false
set_option maxRecDepth 100000
namespace Go.Proofs.YtmnkgcjbckamnaaGreat
open Go.ChangeShapes Go.WideShapes Go.ChangeAt Go.RowKit
open Go.ChangeMaps (open_string)

set_option maxHeartbeats 4000000 in
theorem fnSearchUp (w : World) (A0a : Option Addr) (n0a c0a : Nat) (s0a : List Code) (A0b : Option Addr) (n0b c0b : Nat) (s0b : List Frame) (A1b : Option Addr) (n1b c1b : Nat) (s1b : List Int) (x2b : Int) (x3b : Int) (x4b : Int) (x5b : Int) (A6b : Option Addr) (n6b c6b : Nat) (s6b : List Note) (h0a : Sl CodeR w 0 w.heap.size A0a n0a c0a s0a)  (h0b : Sl FrameR w 0 w.heap.size A0b n0b c0b s0b) (h1b : Sl intR w 0 w.heap.size A1b n1b c1b s1b) (h6b : Sl noteR w 0 w.heap.size A6b n6b c6b s6b) (i2b : I64 x2b) (i3b : I64 x3b) (i4b : I64 x4b) (i5b : I64 x5b) :
    Calls Tryz.prog 5 #[.agg #[.slice A0a n0a c0a], .agg #[.slice A0b n0b c0b, .slice A1b n1b c1b, .int .i64 x2b, .int .i64 x3b, .int .i64 x4b, .int .i64 x5b, .slice A6b n6b c6b]] w (RetB true w) := by
  go_enter Tryz.func5, Tryz.ntmps5
  go_wp2_with fail
  refine (lawsSzImage _ 0 _ A0a n0a c0a s0a (h0a.next (by (repeat (first | with_reducible exact Below.refl _ _ | with_reducible assumption | with_reducible refine below_alloc ?_ _ | ((with_reducible refine Below.setCell ?_ ?_ _); rotate_left; (· first | exact Nat.le_refl _ | (simp; done) | (simp; omega))) | with_reducible refine below_drewN ?_ _ | with_reducible refine Below.drew ?_ | with_reducible refine below_then ?_ (by with_reducible assumption))))) (Nat.le_refl _) 1048576 (by omega) (by omega)).mono ?_
  rintro e w1 ⟨ra, rfl, hra, b⟩
  have hb : Below w.heap.size w w1 := by (repeat (first | with_reducible exact Below.refl _ _ | with_reducible assumption | with_reducible refine below_alloc ?_ _ | ((with_reducible refine Below.setCell ?_ ?_ _); rotate_left; (· first | exact Nat.le_refl _ | (simp; done) | (simp; omega))) | with_reducible refine below_drewN ?_ _ | with_reducible refine Below.drew ?_ | with_reducible refine below_then ?_ (by with_reducible assumption)))
  replace h0a := h0a.next hb
  replace h0b := h0b.next hb
  replace h1b := h1b.next hb
  replace h6b := h6b.next hb
  obtain ⟨hcE, hfE⟩ := bcell b
  have ka0 : w1.cell? ⟨w.heap.size, 0, none⟩ = some (.slice A0a n0a c0a) := by simp [hcE, go_sem]
  have kb0 : w1.cell? ⟨w.heap.size + 1, 0, none⟩ = some (.slice A0b n0b c0b) := by simp [hcE, go_sem]
  have kb1 : w1.cell? ⟨w.heap.size + 1, 1, none⟩ = some (.slice A1b n1b c1b) := by simp [hcE, go_sem]
  have kb2 : w1.cell? ⟨w.heap.size + 1, 2, none⟩ = some (.int .i64 x2b) := by simp [hcE, go_sem]
  have kb3 : w1.cell? ⟨w.heap.size + 1, 3, none⟩ = some (.int .i64 x3b) := by simp [hcE, go_sem]
  have kb4 : w1.cell? ⟨w.heap.size + 1, 4, none⟩ = some (.int .i64 x4b) := by simp [hcE, go_sem]
  have kb5 : w1.cell? ⟨w.heap.size + 1, 5, none⟩ = some (.int .i64 x5b) := by simp [hcE, go_sem]
  have kb6 : w1.cell? ⟨w.heap.size + 1, 6, none⟩ = some (.slice A6b n6b c6b) := by simp [hcE, go_sem]
  clear hcE hfE
  have zka : w.heap.size < w1.heap.size := World.block_lt_of_cell? w1 _ ka0
  have zkb : w.heap.size + 1 < w1.heap.size := World.block_lt_of_cell? w1 _ kb0
  clear b
  rcases hra with rfl | ⟨qa, ta⟩
  · go_wp2_with fail
    go_ret
    exact RetB.mk rfl hb
  have ma : mszLCode s0a ≤ 1048576 := by omega
  have ua : ra ≤ 1048576 := by omega
  clear ta
  have mm0a : mszLCode s0a ≤ 1048576 := by omega
  go_wp2_with fail
  refine (lawsSzVm _ 0 _ A0b n0b c0b s0b A1b n1b c1b s1b x2b x3b x4b x5b A6b n6b c6b s6b (h0b.next (by (repeat (first | with_reducible exact Below.refl _ _ | with_reducible assumption | with_reducible refine below_alloc ?_ _ | ((with_reducible refine Below.setCell ?_ ?_ _); rotate_left; (· first | exact Nat.le_refl _ | (simp; done) | (simp; omega))) | with_reducible refine below_drewN ?_ _ | with_reducible refine Below.drew ?_ | with_reducible refine below_then ?_ (by with_reducible assumption))))) (h1b.next (by (repeat (first | with_reducible exact Below.refl _ _ | with_reducible assumption | with_reducible refine below_alloc ?_ _ | ((with_reducible refine Below.setCell ?_ ?_ _); rotate_left; (· first | exact Nat.le_refl _ | (simp; done) | (simp; omega))) | with_reducible refine below_drewN ?_ _ | with_reducible refine Below.drew ?_ | with_reducible refine below_then ?_ (by with_reducible assumption))))) (h6b.next (by (repeat (first | with_reducible exact Below.refl _ _ | with_reducible assumption | with_reducible refine below_alloc ?_ _ | ((with_reducible refine Below.setCell ?_ ?_ _); rotate_left; (· first | exact Nat.le_refl _ | (simp; done) | (simp; omega))) | with_reducible refine below_drewN ?_ _ | with_reducible refine Below.drew ?_ | with_reducible refine below_then ?_ (by with_reducible assumption))))) (Nat.le_refl _) ra (by omega) (by omega)).mono ?_
  rintro e w2 ⟨rb, rfl, hrb, b⟩
  have hx : Below w1.heap.size w1 w2 := by (repeat (first | with_reducible exact Below.refl _ _ | with_reducible assumption | with_reducible refine below_alloc ?_ _ | ((with_reducible refine Below.setCell ?_ ?_ _); rotate_left; (· first | exact Nat.le_refl _ | (simp; done) | (simp; omega))) | with_reducible refine below_drewN ?_ _ | with_reducible refine Below.drew ?_ | with_reducible refine below_then ?_ (by with_reducible assumption)))
  replace hb := below_then hb hx
  replace h0a := h0a.next hx
  replace h0b := h0b.next hx
  replace h1b := h1b.next hx
  replace h6b := h6b.next hx
  replace ka0 := below_cell hx ka0
  replace kb0 := below_cell hx kb0
  replace kb1 := below_cell hx kb1
  replace kb2 := below_cell hx kb2
  replace kb3 := below_cell hx kb3
  replace kb4 := below_cell hx kb4
  replace kb5 := below_cell hx kb5
  replace kb6 := below_cell hx kb6
  clear hx
  have zka : w.heap.size < w2.heap.size := World.block_lt_of_cell? w2 _ ka0
  have zkb : w.heap.size + 1 < w2.heap.size := World.block_lt_of_cell? w2 _ kb0
  clear b
  rcases hrb with rfl | ⟨qb, tb⟩
  · go_wp2_with fail
    go_ret
    exact RetB.mk rfl hb
  have mb : mszLFrame s0b + s1b.length + s6b.length ≤ 1048576 := by omega
  have ub : rb ≤ 1048576 := by omega
  clear tb
  have mm0b : mszLFrame s0b ≤ 1048576 := by omega
  have mm1b : s1b.length ≤ 1048576 := by omega
  have mm6b : s6b.length ≤ 1048576 := by omega
  go_wp2_with fail
  go_region_held3 (fun W => W.cell? ⟨w.heap.size, 0, none⟩ = some (.slice A0a n0a c0a) ∧ W.cell? ⟨w.heap.size + 1, 0, none⟩ = some (.slice A0b n0b c0b) ∧ W.cell? ⟨w.heap.size + 1, 1, none⟩ = some (.slice A1b n1b c1b) ∧ W.cell? ⟨w.heap.size + 1, 2, none⟩ = some (.int .i64 x2b) ∧ W.cell? ⟨w.heap.size + 1, 3, none⟩ = some (.int .i64 x3b) ∧ W.cell? ⟨w.heap.size + 1, 4, none⟩ = some (.int .i64 x4b) ∧ W.cell? ⟨w.heap.size + 1, 5, none⟩ = some (.int .i64 x5b) ∧ W.cell? ⟨w.heap.size + 1, 6, none⟩ = some (.slice A6b n6b c6b))
    (first | exact ⟨ka0, kb0, kb1, kb2, kb3, kb4, kb5, kb6⟩ | exact ⟨below_cell bw3 ka0, below_cell bw3 kb0, below_cell bw3 kb1, below_cell bw3 kb2, below_cell bw3 kb3, below_cell bw3 kb4, below_cell bw3 kb5, below_cell bw3 kb6⟩ | exact ⟨below_cell bw4 (below_cell bw3 ka0), below_cell bw4 (below_cell bw3 kb0), below_cell bw4 (below_cell bw3 kb1), below_cell bw4 (below_cell bw3 kb2), below_cell bw4 (below_cell bw3 kb3), below_cell bw4 (below_cell bw3 kb4), below_cell bw4 (below_cell bw3 kb5), below_cell bw4 (below_cell bw3 kb6)⟩ | exact ⟨below_cell bw5 (below_cell bw4 (below_cell bw3 ka0)), below_cell bw5 (below_cell bw4 (below_cell bw3 kb0)), below_cell bw5 (below_cell bw4 (below_cell bw3 kb1)), below_cell bw5 (below_cell bw4 (below_cell bw3 kb2)), below_cell bw5 (below_cell bw4 (below_cell bw3 kb3)), below_cell bw5 (below_cell bw4 (below_cell bw3 kb4)), below_cell bw5 (below_cell bw4 (below_cell bw3 kb5)), below_cell bw5 (below_cell bw4 (below_cell bw3 kb6))⟩)
    (first | (go_at_call 11; ((with_reducible refine (lawsToImage _ 0 _ A0a n0a c0a s0a (h0a.next (by (repeat (first | with_reducible exact Below.refl _ _ | with_reducible assumption | with_reducible refine below_alloc ?_ _ | ((with_reducible refine Below.setCell ?_ ?_ _); rotate_left; (· first | exact Nat.le_refl _ | (simp; done) | (simp; omega))) | with_reducible refine below_drewN ?_ _ | with_reducible refine Below.drew ?_ | with_reducible refine below_then ?_ (by with_reducible assumption))))) (Nat.le_refl _) mm0a ).mono ?_); rintro e w3 ⟨Faq, A0aq, n0aq, c0aq, rfl, oaq, faq, bw3⟩)) | (go_at_call 23; ((with_reducible refine (lawsToVm _ 0 _ A0b n0b c0b s0b A1b n1b c1b s1b x2b x3b x4b x5b A6b n6b c6b s6b (h0b.next (by (repeat (first | with_reducible exact Below.refl _ _ | with_reducible assumption | with_reducible refine below_alloc ?_ _ | ((with_reducible refine Below.setCell ?_ ?_ _); rotate_left; (· first | exact Nat.le_refl _ | (simp; done) | (simp; omega))) | with_reducible refine below_drewN ?_ _ | with_reducible refine Below.drew ?_ | with_reducible refine below_then ?_ (by with_reducible assumption))))) (h1b.next (by (repeat (first | with_reducible exact Below.refl _ _ | with_reducible assumption | with_reducible refine below_alloc ?_ _ | ((with_reducible refine Below.setCell ?_ ?_ _); rotate_left; (· first | exact Nat.le_refl _ | (simp; done) | (simp; omega))) | with_reducible refine below_drewN ?_ _ | with_reducible refine Below.drew ?_ | with_reducible refine below_then ?_ (by with_reducible assumption))))) (h6b.next (by (repeat (first | with_reducible exact Below.refl _ _ | with_reducible assumption | with_reducible refine below_alloc ?_ _ | ((with_reducible refine Below.setCell ?_ ?_ _); rotate_left; (· first | exact Nat.le_refl _ | (simp; done) | (simp; omega))) | with_reducible refine below_drewN ?_ _ | with_reducible refine Below.drew ?_ | with_reducible refine below_then ?_ (by with_reducible assumption))))) (Nat.le_refl _) mm0b mm1b mm6b i2b i3b i4b i5b).mono ?_); rintro e w4 ⟨Fbq, A0bq, n0bq, c0bq, A1bq, n1bq, c1bq, A6bq, n6bq, c6bq, rfl, obq, fbq, bw4⟩)) | (go_at_call 22; ((with_reducible refine (specSearchUpC _ A0aq n0aq c0aq s0a A0bq n0bq c0bq s0b A1bq n1bq c1bq s1b x2b x3b x4b x5b A6bq n6bq c6bq s6b ((Image_sl0 oaq).next (by (repeat (first | with_reducible exact Below.refl _ _ | with_reducible assumption | with_reducible refine below_alloc ?_ _ | ((with_reducible refine Below.setCell ?_ ?_ _); rotate_left; (· first | exact Nat.le_refl _ | (simp; done) | (simp; omega))) | with_reducible refine below_drewN ?_ _ | with_reducible refine Below.drew ?_ | with_reducible refine below_then ?_ (by with_reducible assumption))))) mm0a ((Vm_sl0 obq).next (by (repeat (first | with_reducible exact Below.refl _ _ | with_reducible assumption | with_reducible refine below_alloc ?_ _ | ((with_reducible refine Below.setCell ?_ ?_ _); rotate_left; (· first | exact Nat.le_refl _ | (simp; done) | (simp; omega))) | with_reducible refine below_drewN ?_ _ | with_reducible refine Below.drew ?_ | with_reducible refine below_then ?_ (by with_reducible assumption))))) ((Vm_sl1 obq).next (by (repeat (first | with_reducible exact Below.refl _ _ | with_reducible assumption | with_reducible refine below_alloc ?_ _ | ((with_reducible refine Below.setCell ?_ ?_ _); rotate_left; (· first | exact Nat.le_refl _ | (simp; done) | (simp; omega))) | with_reducible refine below_drewN ?_ _ | with_reducible refine Below.drew ?_ | with_reducible refine below_then ?_ (by with_reducible assumption))))) ((Vm_sl6 obq).next (by (repeat (first | with_reducible exact Below.refl _ _ | with_reducible assumption | with_reducible refine below_alloc ?_ _ | ((with_reducible refine Below.setCell ?_ ?_ _); rotate_left; (· first | exact Nat.le_refl _ | (simp; done) | (simp; omega))) | with_reducible refine below_drewN ?_ _ | with_reducible refine Below.drew ?_ | with_reducible refine below_then ?_ (by with_reducible assumption))))) mm0b mm1b mm6b i2b i3b i4b i5b).mono ?_); rintro e w5 ⟨rfl, bw5⟩)))
  have hx : Below w2.heap.size w2 w5 := by (repeat (first | with_reducible exact Below.refl _ _ | with_reducible assumption | with_reducible refine below_alloc ?_ _ | ((with_reducible refine Below.setCell ?_ ?_ _); rotate_left; (· first | exact Nat.le_refl _ | (simp; done) | (simp; omega))) | with_reducible refine below_drewN ?_ _ | with_reducible refine Below.drew ?_ | with_reducible refine below_then ?_ (by with_reducible assumption)))
  replace hb := below_then hb hx
  replace h0a := h0a.next hx
  replace h0b := h0b.next hx
  replace h1b := h1b.next hx
  replace h6b := h6b.next hx
  replace ka0 := below_cell hx ka0
  replace kb0 := below_cell hx kb0
  replace kb1 := below_cell hx kb1
  replace kb2 := below_cell hx kb2
  replace kb3 := below_cell hx kb3
  replace kb4 := below_cell hx kb4
  replace kb5 := below_cell hx kb5
  replace kb6 := below_cell hx kb6
  clear hx
  have zka : w.heap.size < w5.heap.size := World.block_lt_of_cell? w5 _ ka0
  have zkb : w.heap.size + 1 < w5.heap.size := World.block_lt_of_cell? w5 _ kb0
  clear bw5 bw4 bw3
  clear oaq faq
  clear obq fbq
  go_wp2_with fail
  refine (lawsToImage _ 0 _ A0a n0a c0a s0a (h0a.next (by (repeat (first | with_reducible exact Below.refl _ _ | with_reducible assumption | with_reducible refine below_alloc ?_ _ | ((with_reducible refine Below.setCell ?_ ?_ _); rotate_left; (· first | exact Nat.le_refl _ | (simp; done) | (simp; omega))) | with_reducible refine below_drewN ?_ _ | with_reducible refine Below.drew ?_ | with_reducible refine below_then ?_ (by with_reducible assumption))))) (Nat.le_refl _) mm0a ).mono ?_
  rintro e w6 ⟨Fax, A0ax, n0ax, c0ax, rfl, oax, fax, b⟩
  have hx : Below w5.heap.size w5 w6 := by (repeat (first | with_reducible exact Below.refl _ _ | with_reducible assumption | with_reducible refine below_alloc ?_ _ | ((with_reducible refine Below.setCell ?_ ?_ _); rotate_left; (· first | exact Nat.le_refl _ | (simp; done) | (simp; omega))) | with_reducible refine below_drewN ?_ _ | with_reducible refine Below.drew ?_ | with_reducible refine below_then ?_ (by with_reducible assumption)))
  replace hb := below_then hb hx
  replace h0a := h0a.next hx
  replace h0b := h0b.next hx
  replace h1b := h1b.next hx
  replace h6b := h6b.next hx
  replace ka0 := below_cell hx ka0
  replace kb0 := below_cell hx kb0
  replace kb1 := below_cell hx kb1
  replace kb2 := below_cell hx kb2
  replace kb3 := below_cell hx kb3
  replace kb4 := below_cell hx kb4
  replace kb5 := below_cell hx kb5
  replace kb6 := below_cell hx kb6
  clear hx
  have zka : w.heap.size < w6.heap.size := World.block_lt_of_cell? w6 _ ka0
  have zkb : w.heap.size + 1 < w6.heap.size := World.block_lt_of_cell? w6 _ kb0
  clear b
  have g0ax := Image_sl0 oax
  clear oax fax
  go_wp2_with fail
  refine (lawsToVm _ 0 _ A0b n0b c0b s0b A1b n1b c1b s1b x2b x3b x4b x5b A6b n6b c6b s6b (h0b.next (by (repeat (first | with_reducible exact Below.refl _ _ | with_reducible assumption | with_reducible refine below_alloc ?_ _ | ((with_reducible refine Below.setCell ?_ ?_ _); rotate_left; (· first | exact Nat.le_refl _ | (simp; done) | (simp; omega))) | with_reducible refine below_drewN ?_ _ | with_reducible refine Below.drew ?_ | with_reducible refine below_then ?_ (by with_reducible assumption))))) (h1b.next (by (repeat (first | with_reducible exact Below.refl _ _ | with_reducible assumption | with_reducible refine below_alloc ?_ _ | ((with_reducible refine Below.setCell ?_ ?_ _); rotate_left; (· first | exact Nat.le_refl _ | (simp; done) | (simp; omega))) | with_reducible refine below_drewN ?_ _ | with_reducible refine Below.drew ?_ | with_reducible refine below_then ?_ (by with_reducible assumption))))) (h6b.next (by (repeat (first | with_reducible exact Below.refl _ _ | with_reducible assumption | with_reducible refine below_alloc ?_ _ | ((with_reducible refine Below.setCell ?_ ?_ _); rotate_left; (· first | exact Nat.le_refl _ | (simp; done) | (simp; omega))) | with_reducible refine below_drewN ?_ _ | with_reducible refine Below.drew ?_ | with_reducible refine below_then ?_ (by with_reducible assumption))))) (Nat.le_refl _) mm0b mm1b mm6b i2b i3b i4b i5b).mono ?_
  rintro e w7 ⟨Fbx, A0bx, n0bx, c0bx, A1bx, n1bx, c1bx, A6bx, n6bx, c6bx, rfl, obx, fbx, b⟩
  have hx : Below w6.heap.size w6 w7 := by (repeat (first | with_reducible exact Below.refl _ _ | with_reducible assumption | with_reducible refine below_alloc ?_ _ | ((with_reducible refine Below.setCell ?_ ?_ _); rotate_left; (· first | exact Nat.le_refl _ | (simp; done) | (simp; omega))) | with_reducible refine below_drewN ?_ _ | with_reducible refine Below.drew ?_ | with_reducible refine below_then ?_ (by with_reducible assumption)))
  replace hb := below_then hb hx
  replace h0a := h0a.next hx
  replace h0b := h0b.next hx
  replace h1b := h1b.next hx
  replace h6b := h6b.next hx
  replace g0ax := g0ax.next hx
  replace ka0 := below_cell hx ka0
  replace kb0 := below_cell hx kb0
  replace kb1 := below_cell hx kb1
  replace kb2 := below_cell hx kb2
  replace kb3 := below_cell hx kb3
  replace kb4 := below_cell hx kb4
  replace kb5 := below_cell hx kb5
  replace kb6 := below_cell hx kb6
  have ja0 : w7.cell? ⟨w6.heap.size, 0, none⟩ = some (.slice A0ax n0ax c0ax) := below_cell b (by simp [go_sem])
  clear hx
  have zka : w.heap.size < w7.heap.size := World.block_lt_of_cell? w7 _ ka0
  have zja : w6.heap.size < w7.heap.size := World.block_lt_of_cell? w7 _ ja0
  have zkb : w.heap.size + 1 < w7.heap.size := World.block_lt_of_cell? w7 _ kb0
  clear b
  have g0bx := Vm_sl0 obx
  have g1bx := Vm_sl1 obx
  have g6bx := Vm_sl6 obx
  clear obx fbx
  go_wp2_with fail
  refine (implSearchUpC _ A0ax n0ax c0ax s0a A0bx n0bx c0bx s0b A1bx n1bx c1bx s1b x2b x3b x4b x5b A6bx n6bx c6bx s6b (g0ax.next (by (repeat (first | with_reducible exact Below.refl _ _ | with_reducible assumption | with_reducible refine below_alloc ?_ _ | ((with_reducible refine Below.setCell ?_ ?_ _); rotate_left; (· first | exact Nat.le_refl _ | (simp; done) | (simp; omega))) | with_reducible refine below_drewN ?_ _ | with_reducible refine Below.drew ?_ | with_reducible refine below_then ?_ (by with_reducible assumption))))) mm0a (g0bx.next (by (repeat (first | with_reducible exact Below.refl _ _ | with_reducible assumption | with_reducible refine below_alloc ?_ _ | ((with_reducible refine Below.setCell ?_ ?_ _); rotate_left; (· first | exact Nat.le_refl _ | (simp; done) | (simp; omega))) | with_reducible refine below_drewN ?_ _ | with_reducible refine Below.drew ?_ | with_reducible refine below_then ?_ (by with_reducible assumption))))) (g1bx.next (by (repeat (first | with_reducible exact Below.refl _ _ | with_reducible assumption | with_reducible refine below_alloc ?_ _ | ((with_reducible refine Below.setCell ?_ ?_ _); rotate_left; (· first | exact Nat.le_refl _ | (simp; done) | (simp; omega))) | with_reducible refine below_drewN ?_ _ | with_reducible refine Below.drew ?_ | with_reducible refine below_then ?_ (by with_reducible assumption))))) (g6bx.next (by (repeat (first | with_reducible exact Below.refl _ _ | with_reducible assumption | with_reducible refine below_alloc ?_ _ | ((with_reducible refine Below.setCell ?_ ?_ _); rotate_left; (· first | exact Nat.le_refl _ | (simp; done) | (simp; omega))) | with_reducible refine below_drewN ?_ _ | with_reducible refine Below.drew ?_ | with_reducible refine below_then ?_ (by with_reducible assumption))))) mm0b mm1b mm6b i2b i3b i4b i5b).mono ?_
  rintro e w8 ⟨rfl, b⟩
  have hx : Below w7.heap.size w7 w8 := by (repeat (first | with_reducible exact Below.refl _ _ | with_reducible assumption | with_reducible refine below_alloc ?_ _ | ((with_reducible refine Below.setCell ?_ ?_ _); rotate_left; (· first | exact Nat.le_refl _ | (simp; done) | (simp; omega))) | with_reducible refine below_drewN ?_ _ | with_reducible refine Below.drew ?_ | with_reducible refine below_then ?_ (by with_reducible assumption)))
  replace hb := below_then hb hx
  replace h0a := h0a.next hx
  replace h0b := h0b.next hx
  replace h1b := h1b.next hx
  replace h6b := h6b.next hx
  replace g0ax := g0ax.next hx
  replace g0bx := g0bx.next hx
  replace g1bx := g1bx.next hx
  replace g6bx := g6bx.next hx
  replace ka0 := below_cell hx ka0
  replace kb0 := below_cell hx kb0
  replace kb1 := below_cell hx kb1
  replace kb2 := below_cell hx kb2
  replace kb3 := below_cell hx kb3
  replace kb4 := below_cell hx kb4
  replace kb5 := below_cell hx kb5
  replace kb6 := below_cell hx kb6
  replace ja0 := below_cell hx ja0
  have jb0 : w8.cell? ⟨w7.heap.size, 0, none⟩ = some (.slice A0bx n0bx c0bx) := below_cell b (by simp [go_sem])
  have jb1 : w8.cell? ⟨w7.heap.size, 1, none⟩ = some (.slice A1bx n1bx c1bx) := below_cell b (by simp [go_sem])
  have jb2 : w8.cell? ⟨w7.heap.size, 2, none⟩ = some (.int .i64 x2b) := below_cell b (by simp [go_sem])
  have jb3 : w8.cell? ⟨w7.heap.size, 3, none⟩ = some (.int .i64 x3b) := below_cell b (by simp [go_sem])
  have jb4 : w8.cell? ⟨w7.heap.size, 4, none⟩ = some (.int .i64 x4b) := below_cell b (by simp [go_sem])
  have jb5 : w8.cell? ⟨w7.heap.size, 5, none⟩ = some (.int .i64 x5b) := below_cell b (by simp [go_sem])
  have jb6 : w8.cell? ⟨w7.heap.size, 6, none⟩ = some (.slice A6bx n6bx c6bx) := below_cell b (by simp [go_sem])
  clear hx
  have zka : w.heap.size < w8.heap.size := World.block_lt_of_cell? w8 _ ka0
  have zja : w6.heap.size < w8.heap.size := World.block_lt_of_cell? w8 _ ja0
  have zkb : w.heap.size + 1 < w8.heap.size := World.block_lt_of_cell? w8 _ kb0
  have zjb : w7.heap.size < w8.heap.size := World.block_lt_of_cell? w8 _ jb0
  clear b
  have hE := eqB_true (rfl : s0a = s0a)
  go_wp2_with fail
  go_region_held3 (fun W => W.cell? ⟨w.heap.size, 0, none⟩ = some (.slice A0a n0a c0a) ∧ W.cell? ⟨w6.heap.size, 0, none⟩ = some (.slice A0ax n0ax c0ax))
    (first | exact ⟨ka0, ja0⟩ | exact ⟨below_cell bw9 ka0, below_cell bw9 ja0⟩ | exact ⟨below_cell bw10 (below_cell bw9 ka0), below_cell bw10 (below_cell bw9 ja0)⟩)
    (first | (go_at_call 11; ((with_reducible refine (lawsToImage _ 0 _ A0a n0a c0a s0a (h0a.next (by (repeat (first | with_reducible exact Below.refl _ _ | with_reducible assumption | with_reducible refine below_alloc ?_ _ | ((with_reducible refine Below.setCell ?_ ?_ _); rotate_left; (· first | exact Nat.le_refl _ | (simp; done) | (simp; omega))) | with_reducible refine below_drewN ?_ _ | with_reducible refine Below.drew ?_ | with_reducible refine below_then ?_ (by with_reducible assumption))))) (Nat.le_refl _) mm0a ).mono ?_); rintro e w9 ⟨Fay, A0ay, n0ay, c0ay, rfl, oay, fay, bw9⟩)) | (go_at_call 14; ((with_reducible refine (lawsEqImage _ 0 _ 0 _ A0ax n0ax c0ax s0a A0ay n0ay c0ay s0a (g0ax.next (by (repeat (first | with_reducible exact Below.refl _ _ | with_reducible assumption | with_reducible refine below_alloc ?_ _ | ((with_reducible refine Below.setCell ?_ ?_ _); rotate_left; (· first | exact Nat.le_refl _ | (simp; done) | (simp; omega))) | with_reducible refine below_drewN ?_ _ | with_reducible refine Below.drew ?_ | with_reducible refine below_then ?_ (by with_reducible assumption))))) ((Image_sl0 oay).next (by (repeat (first | with_reducible exact Below.refl _ _ | with_reducible assumption | with_reducible refine below_alloc ?_ _ | ((with_reducible refine Below.setCell ?_ ?_ _); rotate_left; (· first | exact Nat.le_refl _ | (simp; done) | (simp; omega))) | with_reducible refine below_drewN ?_ _ | with_reducible refine Below.drew ?_ | with_reducible refine below_then ?_ (by with_reducible assumption))))) (Nat.le_refl _) (Nat.le_refl _)).mono ?_); rintro e w10 ⟨rfl, bw10⟩)))
  have hx : Below w8.heap.size w8 w10 := by (repeat (first | with_reducible exact Below.refl _ _ | with_reducible assumption | with_reducible refine below_alloc ?_ _ | ((with_reducible refine Below.setCell ?_ ?_ _); rotate_left; (· first | exact Nat.le_refl _ | (simp; done) | (simp; omega))) | with_reducible refine below_drewN ?_ _ | with_reducible refine Below.drew ?_ | with_reducible refine below_then ?_ (by with_reducible assumption)))
  replace hb := below_then hb hx
  replace h0a := h0a.next hx
  replace h0b := h0b.next hx
  replace h1b := h1b.next hx
  replace h6b := h6b.next hx
  replace g0ax := g0ax.next hx
  replace g0bx := g0bx.next hx
  replace g1bx := g1bx.next hx
  replace g6bx := g6bx.next hx
  replace ka0 := below_cell hx ka0
  replace kb0 := below_cell hx kb0
  replace kb1 := below_cell hx kb1
  replace kb2 := below_cell hx kb2
  replace kb3 := below_cell hx kb3
  replace kb4 := below_cell hx kb4
  replace kb5 := below_cell hx kb5
  replace kb6 := below_cell hx kb6
  replace ja0 := below_cell hx ja0
  replace jb0 := below_cell hx jb0
  replace jb1 := below_cell hx jb1
  replace jb2 := below_cell hx jb2
  replace jb3 := below_cell hx jb3
  replace jb4 := below_cell hx jb4
  replace jb5 := below_cell hx jb5
  replace jb6 := below_cell hx jb6
  clear hx
  have zka : w.heap.size < w10.heap.size := World.block_lt_of_cell? w10 _ ka0
  have zja : w6.heap.size < w10.heap.size := World.block_lt_of_cell? w10 _ ja0
  have zkb : w.heap.size + 1 < w10.heap.size := World.block_lt_of_cell? w10 _ kb0
  have zjb : w7.heap.size < w10.heap.size := World.block_lt_of_cell? w10 _ jb0
  clear bw10 bw9 oay fay hE
  have hE := eqB_true (rfl : (s0b, s1b, x2b, x3b, x4b, x5b, s6b) = (s0b, s1b, x2b, x3b, x4b, x5b, s6b))
  go_wp2_with fail
  go_region_held3 (fun W => W.cell? ⟨w.heap.size + 1, 0, none⟩ = some (.slice A0b n0b c0b) ∧ W.cell? ⟨w.heap.size + 1, 1, none⟩ = some (.slice A1b n1b c1b) ∧ W.cell? ⟨w.heap.size + 1, 2, none⟩ = some (.int .i64 x2b) ∧ W.cell? ⟨w.heap.size + 1, 3, none⟩ = some (.int .i64 x3b) ∧ W.cell? ⟨w.heap.size + 1, 4, none⟩ = some (.int .i64 x4b) ∧ W.cell? ⟨w.heap.size + 1, 5, none⟩ = some (.int .i64 x5b) ∧ W.cell? ⟨w.heap.size + 1, 6, none⟩ = some (.slice A6b n6b c6b) ∧ W.cell? ⟨w7.heap.size, 0, none⟩ = some (.slice A0bx n0bx c0bx) ∧ W.cell? ⟨w7.heap.size, 1, none⟩ = some (.slice A1bx n1bx c1bx) ∧ W.cell? ⟨w7.heap.size, 2, none⟩ = some (.int .i64 x2b) ∧ W.cell? ⟨w7.heap.size, 3, none⟩ = some (.int .i64 x3b) ∧ W.cell? ⟨w7.heap.size, 4, none⟩ = some (.int .i64 x4b) ∧ W.cell? ⟨w7.heap.size, 5, none⟩ = some (.int .i64 x5b) ∧ W.cell? ⟨w7.heap.size, 6, none⟩ = some (.slice A6bx n6bx c6bx))
    (first | exact ⟨kb0, kb1, kb2, kb3, kb4, kb5, kb6, jb0, jb1, jb2, jb3, jb4, jb5, jb6⟩ | exact ⟨below_cell bw11 kb0, below_cell bw11 kb1, below_cell bw11 kb2, below_cell bw11 kb3, below_cell bw11 kb4, below_cell bw11 kb5, below_cell bw11 kb6, below_cell bw11 jb0, below_cell bw11 jb1, below_cell bw11 jb2, below_cell bw11 jb3, below_cell bw11 jb4, below_cell bw11 jb5, below_cell bw11 jb6⟩ | exact ⟨below_cell bw12 (below_cell bw11 kb0), below_cell bw12 (below_cell bw11 kb1), below_cell bw12 (below_cell bw11 kb2), below_cell bw12 (below_cell bw11 kb3), below_cell bw12 (below_cell bw11 kb4), below_cell bw12 (below_cell bw11 kb5), below_cell bw12 (below_cell bw11 kb6), below_cell bw12 (below_cell bw11 jb0), below_cell bw12 (below_cell bw11 jb1), below_cell bw12 (below_cell bw11 jb2), below_cell bw12 (below_cell bw11 jb3), below_cell bw12 (below_cell bw11 jb4), below_cell bw12 (below_cell bw11 jb5), below_cell bw12 (below_cell bw11 jb6)⟩)
    (first | (go_at_call 23; ((with_reducible refine (lawsToVm _ 0 _ A0b n0b c0b s0b A1b n1b c1b s1b x2b x3b x4b x5b A6b n6b c6b s6b (h0b.next (by (repeat (first | with_reducible exact Below.refl _ _ | with_reducible assumption | with_reducible refine below_alloc ?_ _ | ((with_reducible refine Below.setCell ?_ ?_ _); rotate_left; (· first | exact Nat.le_refl _ | (simp; done) | (simp; omega))) | with_reducible refine below_drewN ?_ _ | with_reducible refine Below.drew ?_ | with_reducible refine below_then ?_ (by with_reducible assumption))))) (h1b.next (by (repeat (first | with_reducible exact Below.refl _ _ | with_reducible assumption | with_reducible refine below_alloc ?_ _ | ((with_reducible refine Below.setCell ?_ ?_ _); rotate_left; (· first | exact Nat.le_refl _ | (simp; done) | (simp; omega))) | with_reducible refine below_drewN ?_ _ | with_reducible refine Below.drew ?_ | with_reducible refine below_then ?_ (by with_reducible assumption))))) (h6b.next (by (repeat (first | with_reducible exact Below.refl _ _ | with_reducible assumption | with_reducible refine below_alloc ?_ _ | ((with_reducible refine Below.setCell ?_ ?_ _); rotate_left; (· first | exact Nat.le_refl _ | (simp; done) | (simp; omega))) | with_reducible refine below_drewN ?_ _ | with_reducible refine Below.drew ?_ | with_reducible refine below_then ?_ (by with_reducible assumption))))) (Nat.le_refl _) mm0b mm1b mm6b i2b i3b i4b i5b).mono ?_); rintro e w11 ⟨Fby, A0by, n0by, c0by, A1by, n1by, c1by, A6by, n6by, c6by, rfl, oby, fby, bw11⟩)) | (go_at_call 25; ((with_reducible refine (lawsEqVm _ 0 _ 0 _ A0bx n0bx c0bx s0b A1bx n1bx c1bx s1b x2b x3b x4b x5b A6bx n6bx c6bx s6b A0by n0by c0by s0b A1by n1by c1by s1b x2b x3b x4b x5b A6by n6by c6by s6b (g0bx.next (by (repeat (first | with_reducible exact Below.refl _ _ | with_reducible assumption | with_reducible refine below_alloc ?_ _ | ((with_reducible refine Below.setCell ?_ ?_ _); rotate_left; (· first | exact Nat.le_refl _ | (simp; done) | (simp; omega))) | with_reducible refine below_drewN ?_ _ | with_reducible refine Below.drew ?_ | with_reducible refine below_then ?_ (by with_reducible assumption))))) (g1bx.next (by (repeat (first | with_reducible exact Below.refl _ _ | with_reducible assumption | with_reducible refine below_alloc ?_ _ | ((with_reducible refine Below.setCell ?_ ?_ _); rotate_left; (· first | exact Nat.le_refl _ | (simp; done) | (simp; omega))) | with_reducible refine below_drewN ?_ _ | with_reducible refine Below.drew ?_ | with_reducible refine below_then ?_ (by with_reducible assumption))))) (g6bx.next (by (repeat (first | with_reducible exact Below.refl _ _ | with_reducible assumption | with_reducible refine below_alloc ?_ _ | ((with_reducible refine Below.setCell ?_ ?_ _); rotate_left; (· first | exact Nat.le_refl _ | (simp; done) | (simp; omega))) | with_reducible refine below_drewN ?_ _ | with_reducible refine Below.drew ?_ | with_reducible refine below_then ?_ (by with_reducible assumption))))) ((Vm_sl0 oby).next (by (repeat (first | with_reducible exact Below.refl _ _ | with_reducible assumption | with_reducible refine below_alloc ?_ _ | ((with_reducible refine Below.setCell ?_ ?_ _); rotate_left; (· first | exact Nat.le_refl _ | (simp; done) | (simp; omega))) | with_reducible refine below_drewN ?_ _ | with_reducible refine Below.drew ?_ | with_reducible refine below_then ?_ (by with_reducible assumption))))) ((Vm_sl1 oby).next (by (repeat (first | with_reducible exact Below.refl _ _ | with_reducible assumption | with_reducible refine below_alloc ?_ _ | ((with_reducible refine Below.setCell ?_ ?_ _); rotate_left; (· first | exact Nat.le_refl _ | (simp; done) | (simp; omega))) | with_reducible refine below_drewN ?_ _ | with_reducible refine Below.drew ?_ | with_reducible refine below_then ?_ (by with_reducible assumption))))) ((Vm_sl6 oby).next (by (repeat (first | with_reducible exact Below.refl _ _ | with_reducible assumption | with_reducible refine below_alloc ?_ _ | ((with_reducible refine Below.setCell ?_ ?_ _); rotate_left; (· first | exact Nat.le_refl _ | (simp; done) | (simp; omega))) | with_reducible refine below_drewN ?_ _ | with_reducible refine Below.drew ?_ | with_reducible refine below_then ?_ (by with_reducible assumption))))) (Nat.le_refl _) (Nat.le_refl _)).mono ?_); rintro e w12 ⟨rfl, bw12⟩)))
  have hx : Below w10.heap.size w10 w12 := by (repeat (first | with_reducible exact Below.refl _ _ | with_reducible assumption | with_reducible refine below_alloc ?_ _ | ((with_reducible refine Below.setCell ?_ ?_ _); rotate_left; (· first | exact Nat.le_refl _ | (simp; done) | (simp; omega))) | with_reducible refine below_drewN ?_ _ | with_reducible refine Below.drew ?_ | with_reducible refine below_then ?_ (by with_reducible assumption)))
  replace hb := below_then hb hx
  replace h0a := h0a.next hx
  replace h0b := h0b.next hx
  replace h1b := h1b.next hx
  replace h6b := h6b.next hx
  replace g0ax := g0ax.next hx
  replace g0bx := g0bx.next hx
  replace g1bx := g1bx.next hx
  replace g6bx := g6bx.next hx
  replace ka0 := below_cell hx ka0
  replace kb0 := below_cell hx kb0
  replace kb1 := below_cell hx kb1
  replace kb2 := below_cell hx kb2
  replace kb3 := below_cell hx kb3
  replace kb4 := below_cell hx kb4
  replace kb5 := below_cell hx kb5
  replace kb6 := below_cell hx kb6
  replace ja0 := below_cell hx ja0
  replace jb0 := below_cell hx jb0
  replace jb1 := below_cell hx jb1
  replace jb2 := below_cell hx jb2
  replace jb3 := below_cell hx jb3
  replace jb4 := below_cell hx jb4
  replace jb5 := below_cell hx jb5
  replace jb6 := below_cell hx jb6
  clear hx
  have zka : w.heap.size < w12.heap.size := World.block_lt_of_cell? w12 _ ka0
  have zja : w6.heap.size < w12.heap.size := World.block_lt_of_cell? w12 _ ja0
  have zkb : w.heap.size + 1 < w12.heap.size := World.block_lt_of_cell? w12 _ kb0
  have zjb : w7.heap.size < w12.heap.size := World.block_lt_of_cell? w12 _ jb0
  clear bw12 bw11 oby fby hE
  go_wp2_with fail
  go_ret
  exact RetB.mk rfl hb

theorem fnSearchUpA (w : World) (csa : Array Value) (ea : Image) (hla : ImageR.rel w 0 w.heap.size csa.toList ea) (csb : Array Value) (eb : Vm) (hlb : VmR.rel w 0 w.heap.size csb.toList eb) :
    Calls Tryz.prog 5 #[.agg csa, .agg csb] w (RetB true w) := by
  obtain ⟨A0a, n0a, c0a, s0a, hca, hea, h0a⟩ := Image_rel hla
  obtain ⟨csa⟩ := csa
  simp only at hca
  subst hca hea
  obtain ⟨A0b, n0b, c0b, s0b, A1b, n1b, c1b, s1b, x2b, x3b, x4b, x5b, A6b, n6b, c6b, s6b, hcb, heb, h0b, h1b, i2b, i3b, i4b, i5b, h6b⟩ := Vm_rel hlb
  obtain ⟨csb⟩ := csb
  simp only at hcb
  subst hcb heb
  exact fnSearchUp w A0a n0a c0a ea A0b n0b c0b s0b A1b n1b c1b s1b x2b x3b x4b x5b A6b n6b c6b s6b h0a  h0b h1b h6b i2b i3b i4b i5b

end Go.Proofs.YtmnkgcjbckamnaaGreat
