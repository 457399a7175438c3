/- For all programs the program's SameProg returns what the reference's returns: FnExactSameProg returns true, and its arguments read as they did. No condition beyond the row's own. -/
import Derived.Test.YtikffchdembbjaaSameProg
import Derived.Test.YtikffchdembbjaaLawKit
import Derived.Deep.RegionHeld3
set_option linter.unusedVariables false
set_option linter.unusedSimpArgs false
set_option maxRecDepth 100000
namespace Go.Proofs.Ytikffchdembbjaa
open Go.ChangeShapes Go.WideShapes Go.ChangeAt Go.RowKit
open Go.ChangeMaps (open_string)

set_option maxHeartbeats 4000000 in
theorem fnSameProg (w : World) (A0a : Option Addr) (n0a c0a : Nat) (s0a : List Func) (A0b : Option Addr) (n0b c0b : Nat) (s0b : List Func) (h0a : Sl FuncR w 0 w.heap.size A0a n0a c0a s0a)  (h0b : Sl FuncR w 0 w.heap.size A0b n0b c0b s0b)  :
    Calls Try.prog 11 #[.agg #[.slice A0a n0a c0a], .agg #[.slice A0b n0b c0b]] w (RetB true w) := by
  go_enter Try.func11, Try.ntmps11
  go_wp2_with fail
  refine (lawsSzProg _ 0 _ A0a n0a c0a s0a (h0a.next (by (repeat (first | with_reducible exact Below.refl _ _ | with_reducible assumption | with_reducible refine below_alloc ?_ _ | ((with_reducible refine Below.setCell ?_ ?_ _); rotate_left; (· first | exact Nat.le_refl _ | (simp; done) | (simp; omega))) | with_reducible refine below_drewN ?_ _ | with_reducible refine Below.drew ?_ | with_reducible refine below_then ?_ (by with_reducible assumption))))) (Nat.le_refl _) 1048576 (by omega) (by omega)).mono ?_
  rintro e w1 ⟨ra, rfl, hra, b⟩
  have hb : Below w.heap.size w w1 := by (repeat (first | with_reducible exact Below.refl _ _ | with_reducible assumption | with_reducible refine below_alloc ?_ _ | ((with_reducible refine Below.setCell ?_ ?_ _); rotate_left; (· first | exact Nat.le_refl _ | (simp; done) | (simp; omega))) | with_reducible refine below_drewN ?_ _ | with_reducible refine Below.drew ?_ | with_reducible refine below_then ?_ (by with_reducible assumption)))
  replace h0a := h0a.next hb
  replace h0b := h0b.next hb
  obtain ⟨hcE, hfE⟩ := bcell b
  have ka0 : w1.cell? ⟨w.heap.size, 0, none⟩ = some (.slice A0a n0a c0a) := by simp [hcE, go_sem]
  have kb0 : w1.cell? ⟨w.heap.size + 1, 0, none⟩ = some (.slice A0b n0b c0b) := by simp [hcE, go_sem]
  clear hcE hfE
  have zka : w.heap.size < w1.heap.size := World.block_lt_of_cell? w1 _ ka0
  have zkb : w.heap.size + 1 < w1.heap.size := World.block_lt_of_cell? w1 _ kb0
  clear b
  rcases hra with rfl | ⟨qa, ta⟩
  · go_wp2_with fail
    go_ret
    exact RetB.mk rfl hb
  have ma : mszLFunc s0a ≤ 1048576 := by omega
  have ua : ra ≤ 1048576 := by omega
  clear ta
  have mm0a : mszLFunc s0a ≤ 1048576 := by omega
  go_wp2_with fail
  refine (lawsSzProg _ 0 _ A0b n0b c0b s0b (h0b.next (by (repeat (first | with_reducible exact Below.refl _ _ | with_reducible assumption | with_reducible refine below_alloc ?_ _ | ((with_reducible refine Below.setCell ?_ ?_ _); rotate_left; (· first | exact Nat.le_refl _ | (simp; done) | (simp; omega))) | with_reducible refine below_drewN ?_ _ | with_reducible refine Below.drew ?_ | with_reducible refine below_then ?_ (by with_reducible assumption))))) (Nat.le_refl _) ra (by omega) (by omega)).mono ?_
  rintro e w2 ⟨rb, rfl, hrb, b⟩
  have hx : Below w1.heap.size w1 w2 := by (repeat (first | with_reducible exact Below.refl _ _ | with_reducible assumption | with_reducible refine below_alloc ?_ _ | ((with_reducible refine Below.setCell ?_ ?_ _); rotate_left; (· first | exact Nat.le_refl _ | (simp; done) | (simp; omega))) | with_reducible refine below_drewN ?_ _ | with_reducible refine Below.drew ?_ | with_reducible refine below_then ?_ (by with_reducible assumption)))
  replace hb := below_then hb hx
  replace h0a := h0a.next hx
  replace h0b := h0b.next hx
  replace ka0 := below_cell hx ka0
  replace kb0 := below_cell hx kb0
  clear hx
  have zka : w.heap.size < w2.heap.size := World.block_lt_of_cell? w2 _ ka0
  have zkb : w.heap.size + 1 < w2.heap.size := World.block_lt_of_cell? w2 _ kb0
  clear b
  rcases hrb with rfl | ⟨qb, tb⟩
  · go_wp2_with fail
    go_ret
    exact RetB.mk rfl hb
  have mb : mszLFunc s0b ≤ 1048576 := by omega
  have ub : rb ≤ 1048576 := by omega
  clear tb
  have mm0b : mszLFunc s0b ≤ 1048576 := by omega
  go_wp2_with fail
  go_region_held3 (fun W => W.cell? ⟨w.heap.size, 0, none⟩ = some (.slice A0a n0a c0a) ∧ W.cell? ⟨w.heap.size + 1, 0, none⟩ = some (.slice A0b n0b c0b))
    (first | exact ⟨ka0, kb0⟩ | exact ⟨below_cell bw3 ka0, below_cell bw3 kb0⟩ | exact ⟨below_cell bw4 (below_cell bw3 ka0), below_cell bw4 (below_cell bw3 kb0)⟩ | exact ⟨below_cell bw5 (below_cell bw4 (below_cell bw3 ka0)), below_cell bw5 (below_cell bw4 (below_cell bw3 kb0))⟩)
    (first | (go_at_call 45; ((with_reducible refine (lawsToProg _ 0 _ A0a n0a c0a s0a (h0a.next (by (repeat (first | with_reducible exact Below.refl _ _ | with_reducible assumption | with_reducible refine below_alloc ?_ _ | ((with_reducible refine Below.setCell ?_ ?_ _); rotate_left; (· first | exact Nat.le_refl _ | (simp; done) | (simp; omega))) | with_reducible refine below_drewN ?_ _ | with_reducible refine Below.drew ?_ | with_reducible refine below_then ?_ (by with_reducible assumption))))) (Nat.le_refl _) mm0a ).mono ?_); rintro e w3 ⟨Faq, A0aq, n0aq, c0aq, rfl, oaq, faq, bw3⟩)) | (go_at_call 45; ((with_reducible refine (lawsToProg _ 0 _ A0b n0b c0b s0b (h0b.next (by (repeat (first | with_reducible exact Below.refl _ _ | with_reducible assumption | with_reducible refine below_alloc ?_ _ | ((with_reducible refine Below.setCell ?_ ?_ _); rotate_left; (· first | exact Nat.le_refl _ | (simp; done) | (simp; omega))) | with_reducible refine below_drewN ?_ _ | with_reducible refine Below.drew ?_ | with_reducible refine below_then ?_ (by with_reducible assumption))))) (Nat.le_refl _) mm0b ).mono ?_); rintro e w4 ⟨Fbq, A0bq, n0bq, c0bq, rfl, obq, fbq, bw4⟩)) | (go_at_call 44; ((with_reducible refine (specSameProgC _ A0aq n0aq c0aq s0a A0bq n0bq c0bq s0b ((Prog_sl0 oaq).next (by (repeat (first | with_reducible exact Below.refl _ _ | with_reducible assumption | with_reducible refine below_alloc ?_ _ | ((with_reducible refine Below.setCell ?_ ?_ _); rotate_left; (· first | exact Nat.le_refl _ | (simp; done) | (simp; omega))) | with_reducible refine below_drewN ?_ _ | with_reducible refine Below.drew ?_ | with_reducible refine below_then ?_ (by with_reducible assumption))))) mm0a ((Prog_sl0 obq).next (by (repeat (first | with_reducible exact Below.refl _ _ | with_reducible assumption | with_reducible refine below_alloc ?_ _ | ((with_reducible refine Below.setCell ?_ ?_ _); rotate_left; (· first | exact Nat.le_refl _ | (simp; done) | (simp; omega))) | with_reducible refine below_drewN ?_ _ | with_reducible refine Below.drew ?_ | with_reducible refine below_then ?_ (by with_reducible assumption))))) mm0b).mono ?_); rintro e w5 ⟨rfl, bw5⟩)))
  have hx : Below w2.heap.size w2 w5 := by (repeat (first | with_reducible exact Below.refl _ _ | with_reducible assumption | with_reducible refine below_alloc ?_ _ | ((with_reducible refine Below.setCell ?_ ?_ _); rotate_left; (· first | exact Nat.le_refl _ | (simp; done) | (simp; omega))) | with_reducible refine below_drewN ?_ _ | with_reducible refine Below.drew ?_ | with_reducible refine below_then ?_ (by with_reducible assumption)))
  replace hb := below_then hb hx
  replace h0a := h0a.next hx
  replace h0b := h0b.next hx
  replace ka0 := below_cell hx ka0
  replace kb0 := below_cell hx kb0
  clear hx
  have zka : w.heap.size < w5.heap.size := World.block_lt_of_cell? w5 _ ka0
  have zkb : w.heap.size + 1 < w5.heap.size := World.block_lt_of_cell? w5 _ kb0
  clear bw5 bw4 bw3
  clear oaq faq
  clear obq fbq
  go_wp2_with fail
  refine (lawsToProg _ 0 _ A0a n0a c0a s0a (h0a.next (by (repeat (first | with_reducible exact Below.refl _ _ | with_reducible assumption | with_reducible refine below_alloc ?_ _ | ((with_reducible refine Below.setCell ?_ ?_ _); rotate_left; (· first | exact Nat.le_refl _ | (simp; done) | (simp; omega))) | with_reducible refine below_drewN ?_ _ | with_reducible refine Below.drew ?_ | with_reducible refine below_then ?_ (by with_reducible assumption))))) (Nat.le_refl _) mm0a ).mono ?_
  rintro e w6 ⟨Fax, A0ax, n0ax, c0ax, rfl, oax, fax, b⟩
  have hx : Below w5.heap.size w5 w6 := by (repeat (first | with_reducible exact Below.refl _ _ | with_reducible assumption | with_reducible refine below_alloc ?_ _ | ((with_reducible refine Below.setCell ?_ ?_ _); rotate_left; (· first | exact Nat.le_refl _ | (simp; done) | (simp; omega))) | with_reducible refine below_drewN ?_ _ | with_reducible refine Below.drew ?_ | with_reducible refine below_then ?_ (by with_reducible assumption)))
  replace hb := below_then hb hx
  replace h0a := h0a.next hx
  replace h0b := h0b.next hx
  replace ka0 := below_cell hx ka0
  replace kb0 := below_cell hx kb0
  clear hx
  have zka : w.heap.size < w6.heap.size := World.block_lt_of_cell? w6 _ ka0
  have zkb : w.heap.size + 1 < w6.heap.size := World.block_lt_of_cell? w6 _ kb0
  clear b
  have g0ax := Prog_sl0 oax
  clear oax fax
  go_wp2_with fail
  refine (lawsToProg _ 0 _ A0b n0b c0b s0b (h0b.next (by (repeat (first | with_reducible exact Below.refl _ _ | with_reducible assumption | with_reducible refine below_alloc ?_ _ | ((with_reducible refine Below.setCell ?_ ?_ _); rotate_left; (· first | exact Nat.le_refl _ | (simp; done) | (simp; omega))) | with_reducible refine below_drewN ?_ _ | with_reducible refine Below.drew ?_ | with_reducible refine below_then ?_ (by with_reducible assumption))))) (Nat.le_refl _) mm0b ).mono ?_
  rintro e w7 ⟨Fbx, A0bx, n0bx, c0bx, rfl, obx, fbx, b⟩
  have hx : Below w6.heap.size w6 w7 := by (repeat (first | with_reducible exact Below.refl _ _ | with_reducible assumption | with_reducible refine below_alloc ?_ _ | ((with_reducible refine Below.setCell ?_ ?_ _); rotate_left; (· first | exact Nat.le_refl _ | (simp; done) | (simp; omega))) | with_reducible refine below_drewN ?_ _ | with_reducible refine Below.drew ?_ | with_reducible refine below_then ?_ (by with_reducible assumption)))
  replace hb := below_then hb hx
  replace h0a := h0a.next hx
  replace h0b := h0b.next hx
  replace g0ax := g0ax.next hx
  replace ka0 := below_cell hx ka0
  replace kb0 := below_cell hx kb0
  have ja0 : w7.cell? ⟨w6.heap.size, 0, none⟩ = some (.slice A0ax n0ax c0ax) := below_cell b (by simp [go_sem])
  clear hx
  have zka : w.heap.size < w7.heap.size := World.block_lt_of_cell? w7 _ ka0
  have zja : w6.heap.size < w7.heap.size := World.block_lt_of_cell? w7 _ ja0
  have zkb : w.heap.size + 1 < w7.heap.size := World.block_lt_of_cell? w7 _ kb0
  clear b
  have g0bx := Prog_sl0 obx
  clear obx fbx
  go_wp2_with fail
  refine (implSameProgC _ A0ax n0ax c0ax s0a A0bx n0bx c0bx s0b (g0ax.next (by (repeat (first | with_reducible exact Below.refl _ _ | with_reducible assumption | with_reducible refine below_alloc ?_ _ | ((with_reducible refine Below.setCell ?_ ?_ _); rotate_left; (· first | exact Nat.le_refl _ | (simp; done) | (simp; omega))) | with_reducible refine below_drewN ?_ _ | with_reducible refine Below.drew ?_ | with_reducible refine below_then ?_ (by with_reducible assumption))))) mm0a (g0bx.next (by (repeat (first | with_reducible exact Below.refl _ _ | with_reducible assumption | with_reducible refine below_alloc ?_ _ | ((with_reducible refine Below.setCell ?_ ?_ _); rotate_left; (· first | exact Nat.le_refl _ | (simp; done) | (simp; omega))) | with_reducible refine below_drewN ?_ _ | with_reducible refine Below.drew ?_ | with_reducible refine below_then ?_ (by with_reducible assumption))))) mm0b).mono ?_
  rintro e w8 ⟨rfl, b⟩
  have hx : Below w7.heap.size w7 w8 := by (repeat (first | with_reducible exact Below.refl _ _ | with_reducible assumption | with_reducible refine below_alloc ?_ _ | ((with_reducible refine Below.setCell ?_ ?_ _); rotate_left; (· first | exact Nat.le_refl _ | (simp; done) | (simp; omega))) | with_reducible refine below_drewN ?_ _ | with_reducible refine Below.drew ?_ | with_reducible refine below_then ?_ (by with_reducible assumption)))
  replace hb := below_then hb hx
  replace h0a := h0a.next hx
  replace h0b := h0b.next hx
  replace g0ax := g0ax.next hx
  replace g0bx := g0bx.next hx
  replace ka0 := below_cell hx ka0
  replace kb0 := below_cell hx kb0
  replace ja0 := below_cell hx ja0
  have jb0 : w8.cell? ⟨w7.heap.size, 0, none⟩ = some (.slice A0bx n0bx c0bx) := below_cell b (by simp [go_sem])
  clear hx
  have zka : w.heap.size < w8.heap.size := World.block_lt_of_cell? w8 _ ka0
  have zja : w6.heap.size < w8.heap.size := World.block_lt_of_cell? w8 _ ja0
  have zkb : w.heap.size + 1 < w8.heap.size := World.block_lt_of_cell? w8 _ kb0
  have zjb : w7.heap.size < w8.heap.size := World.block_lt_of_cell? w8 _ jb0
  clear b
  have hE := eqB_true (rfl : s0a = s0a)
  go_wp2_with fail
  go_region_held3 (fun W => W.cell? ⟨w.heap.size, 0, none⟩ = some (.slice A0a n0a c0a) ∧ W.cell? ⟨w6.heap.size, 0, none⟩ = some (.slice A0ax n0ax c0ax))
    (first | exact ⟨ka0, ja0⟩ | exact ⟨below_cell bw9 ka0, below_cell bw9 ja0⟩ | exact ⟨below_cell bw10 (below_cell bw9 ka0), below_cell bw10 (below_cell bw9 ja0)⟩)
    (first | (go_at_call 45; ((with_reducible refine (lawsToProg _ 0 _ A0a n0a c0a s0a (h0a.next (by (repeat (first | with_reducible exact Below.refl _ _ | with_reducible assumption | with_reducible refine below_alloc ?_ _ | ((with_reducible refine Below.setCell ?_ ?_ _); rotate_left; (· first | exact Nat.le_refl _ | (simp; done) | (simp; omega))) | with_reducible refine below_drewN ?_ _ | with_reducible refine Below.drew ?_ | with_reducible refine below_then ?_ (by with_reducible assumption))))) (Nat.le_refl _) mm0a ).mono ?_); rintro e w9 ⟨Fay, A0ay, n0ay, c0ay, rfl, oay, fay, bw9⟩)) | (go_at_call 47; ((with_reducible refine (lawsEqProg _ 0 _ 0 _ A0ax n0ax c0ax s0a A0ay n0ay c0ay s0a (g0ax.next (by (repeat (first | with_reducible exact Below.refl _ _ | with_reducible assumption | with_reducible refine below_alloc ?_ _ | ((with_reducible refine Below.setCell ?_ ?_ _); rotate_left; (· first | exact Nat.le_refl _ | (simp; done) | (simp; omega))) | with_reducible refine below_drewN ?_ _ | with_reducible refine Below.drew ?_ | with_reducible refine below_then ?_ (by with_reducible assumption))))) ((Prog_sl0 oay).next (by (repeat (first | with_reducible exact Below.refl _ _ | with_reducible assumption | with_reducible refine below_alloc ?_ _ | ((with_reducible refine Below.setCell ?_ ?_ _); rotate_left; (· first | exact Nat.le_refl _ | (simp; done) | (simp; omega))) | with_reducible refine below_drewN ?_ _ | with_reducible refine Below.drew ?_ | with_reducible refine below_then ?_ (by with_reducible assumption))))) (Nat.le_refl _) (Nat.le_refl _)).mono ?_); rintro e w10 ⟨rfl, bw10⟩)))
  have hx : Below w8.heap.size w8 w10 := by (repeat (first | with_reducible exact Below.refl _ _ | with_reducible assumption | with_reducible refine below_alloc ?_ _ | ((with_reducible refine Below.setCell ?_ ?_ _); rotate_left; (· first | exact Nat.le_refl _ | (simp; done) | (simp; omega))) | with_reducible refine below_drewN ?_ _ | with_reducible refine Below.drew ?_ | with_reducible refine below_then ?_ (by with_reducible assumption)))
  replace hb := below_then hb hx
  replace h0a := h0a.next hx
  replace h0b := h0b.next hx
  replace g0ax := g0ax.next hx
  replace g0bx := g0bx.next hx
  replace ka0 := below_cell hx ka0
  replace kb0 := below_cell hx kb0
  replace ja0 := below_cell hx ja0
  replace jb0 := below_cell hx jb0
  clear hx
  have zka : w.heap.size < w10.heap.size := World.block_lt_of_cell? w10 _ ka0
  have zja : w6.heap.size < w10.heap.size := World.block_lt_of_cell? w10 _ ja0
  have zkb : w.heap.size + 1 < w10.heap.size := World.block_lt_of_cell? w10 _ kb0
  have zjb : w7.heap.size < w10.heap.size := World.block_lt_of_cell? w10 _ jb0
  clear bw10 bw9 oay fay hE
  have hE := eqB_true (rfl : s0b = s0b)
  go_wp2_with fail
  go_region_held3 (fun W => W.cell? ⟨w.heap.size + 1, 0, none⟩ = some (.slice A0b n0b c0b) ∧ W.cell? ⟨w7.heap.size, 0, none⟩ = some (.slice A0bx n0bx c0bx))
    (first | exact ⟨kb0, jb0⟩ | exact ⟨below_cell bw11 kb0, below_cell bw11 jb0⟩ | exact ⟨below_cell bw12 (below_cell bw11 kb0), below_cell bw12 (below_cell bw11 jb0)⟩)
    (first | (go_at_call 45; ((with_reducible refine (lawsToProg _ 0 _ A0b n0b c0b s0b (h0b.next (by (repeat (first | with_reducible exact Below.refl _ _ | with_reducible assumption | with_reducible refine below_alloc ?_ _ | ((with_reducible refine Below.setCell ?_ ?_ _); rotate_left; (· first | exact Nat.le_refl _ | (simp; done) | (simp; omega))) | with_reducible refine below_drewN ?_ _ | with_reducible refine Below.drew ?_ | with_reducible refine below_then ?_ (by with_reducible assumption))))) (Nat.le_refl _) mm0b ).mono ?_); rintro e w11 ⟨Fby, A0by, n0by, c0by, rfl, oby, fby, bw11⟩)) | (go_at_call 47; ((with_reducible refine (lawsEqProg _ 0 _ 0 _ A0bx n0bx c0bx s0b A0by n0by c0by s0b (g0bx.next (by (repeat (first | with_reducible exact Below.refl _ _ | with_reducible assumption | with_reducible refine below_alloc ?_ _ | ((with_reducible refine Below.setCell ?_ ?_ _); rotate_left; (· first | exact Nat.le_refl _ | (simp; done) | (simp; omega))) | with_reducible refine below_drewN ?_ _ | with_reducible refine Below.drew ?_ | with_reducible refine below_then ?_ (by with_reducible assumption))))) ((Prog_sl0 oby).next (by (repeat (first | with_reducible exact Below.refl _ _ | with_reducible assumption | with_reducible refine below_alloc ?_ _ | ((with_reducible refine Below.setCell ?_ ?_ _); rotate_left; (· first | exact Nat.le_refl _ | (simp; done) | (simp; omega))) | with_reducible refine below_drewN ?_ _ | with_reducible refine Below.drew ?_ | with_reducible refine below_then ?_ (by with_reducible assumption))))) (Nat.le_refl _) (Nat.le_refl _)).mono ?_); rintro e w12 ⟨rfl, bw12⟩)))
  have hx : Below w10.heap.size w10 w12 := by (repeat (first | with_reducible exact Below.refl _ _ | with_reducible assumption | with_reducible refine below_alloc ?_ _ | ((with_reducible refine Below.setCell ?_ ?_ _); rotate_left; (· first | exact Nat.le_refl _ | (simp; done) | (simp; omega))) | with_reducible refine below_drewN ?_ _ | with_reducible refine Below.drew ?_ | with_reducible refine below_then ?_ (by with_reducible assumption)))
  replace hb := below_then hb hx
  replace h0a := h0a.next hx
  replace h0b := h0b.next hx
  replace g0ax := g0ax.next hx
  replace g0bx := g0bx.next hx
  replace ka0 := below_cell hx ka0
  replace kb0 := below_cell hx kb0
  replace ja0 := below_cell hx ja0
  replace jb0 := below_cell hx jb0
  clear hx
  have zka : w.heap.size < w12.heap.size := World.block_lt_of_cell? w12 _ ka0
  have zja : w6.heap.size < w12.heap.size := World.block_lt_of_cell? w12 _ ja0
  have zkb : w.heap.size + 1 < w12.heap.size := World.block_lt_of_cell? w12 _ kb0
  have zjb : w7.heap.size < w12.heap.size := World.block_lt_of_cell? w12 _ jb0
  clear bw12 bw11 oby fby hE
  go_wp2_with fail
  go_ret
  exact RetB.mk rfl hb

theorem fnSameProgA (w : World) (csa : Array Value) (ea : Prog) (hla : ProgR.rel w 0 w.heap.size csa.toList ea) (csb : Array Value) (eb : Prog) (hlb : ProgR.rel w 0 w.heap.size csb.toList eb) :
    Calls Try.prog 11 #[.agg csa, .agg csb] w (RetB true w) := by
  obtain ⟨A0a, n0a, c0a, s0a, hca, hea, h0a⟩ := Prog_rel hla
  obtain ⟨csa⟩ := csa
  simp only at hca
  subst hca hea
  obtain ⟨A0b, n0b, c0b, s0b, hcb, heb, h0b⟩ := Prog_rel hlb
  obtain ⟨csb⟩ := csb
  simp only at hcb
  subst hcb heb
  exact fnSameProg w A0a n0a c0a ea A0b n0b c0b eb h0a  h0b 

set_option maxRecDepth 100000 in
theorem sameProg_lifted (os : Os) (started : os.Started) (H : Type) (enc : TypeId × Value → H) :
    ReturnsInHanded {} Try.checked os 11 .any (Rows.fnExactSameProgSpec.pre6 enc Try.prog Try.f11 Rows.fnExactSameProgRow.domain false) (Rows.fnExactSameProgSpec.post enc Try.prog Try.f11 false true false false) := by
  refine returnsInHanded_of_change (C := Try.checked) Try.own started (by kernel_rfl) Try.func11
    (ChangeSpec.witness6 (enc := enc) (C := Try.checked) false ⟨#[], #[.agg #[.slice none 0 0], .agg #[.slice none 0 0]], []⟩ 8 (by kernel_rfl) (by kernel_rfl) (by kernel_rfl) (by kernel_rfl)) ?_
  intro W base args ds gs before hval0 hW hcnd _
  have hval : ∀ (j : Nat) t v, Try.f11.params[j]? = some t → args[j]? = some v → Value.okWide Try.prog W .any base t v := hval0
  have hW' := hW
  obtain ⟨p, q, hA0, hV, rfl, hfz, hnd⟩ := hW
  have hA : DataW.TrodAll enc Try.prog W 0 (fun _ => true) true Try.f11.params.toList args.toList ds p := hA0
  rw [Try.params11] at hA hval
  obtain ⟨v0, v1, d0, d1, p0, p1, rfl, rfl, rfl, h0, h1⟩ := trodAll_two hA
  obtain ⟨cs0, a0, rfl, hl0⟩ := rd_arg_agg rdProg Try.underlying61 (hval 0 61 v0 rfl rfl) h0
  obtain ⟨cs1, a1, rfl, hl1⟩ := rd_arg_agg rdProg Try.underlying61 (hval 1 61 v1 rfl rfl) h1
  refine (fnSameProgA W cs0 a0 hl0 cs1 a1 hl1).mono fun e W' ⟨he, hb⟩ => ?_
  subst he
  obtain ⟨rfl, rfl⟩ := trodVars_none hV
  refine ⟨_, rfl, law_post (T := 4) hW' rfl Try.laidOut ?_ rfl Try.underlying4 rfl hb⟩
  rw [Try.params11]
  intro t ht
  simp only [List.mem_cons, List.mem_nil_iff, or_false] at ht
  rcases ht with rfl | rfl
  · exact ⟨by kernel_rfl, of_decide_eq_true (by kernel_rfl)⟩
  · exact ⟨by kernel_rfl, of_decide_eq_true (by kernel_rfl)⟩

/-- FnExactSameProg answers true whatever its arguments. -/
theorem sameProg_holds : Rows.FnExactSameProgSaid :=
  OpenClaim.holds_of_wide 11 Try.f11 rfl rfl rfl rfl rfl rfl rfl ⟨rfl, rfl, rfl, rfl, rfl⟩ rfl rfl rfl rfl rfl (by kernel_rfl) Try.func11 (by kernel_rfl)
    (of_decide_eq_true (by kernel_rfl)) (by unfold Func.isWrapper; rw [if_neg (of_decide_eq_false (by kernel_rfl))]; exact ⟨rfl, rfl⟩)
    (fun os started H enc _ => sameProg_lifted os started H enc)
#print axioms sameProg_holds
end Go.Proofs.Ytikffchdembbjaa
