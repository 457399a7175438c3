/- For all outcomes the program's FirstApart returns what the reference's returns: FnExactFirstApart returns true, and its arguments read as they did. No condition beyond the row's own. -/
import Derived.Test.YtikffchdembbjaaFirstApart
import Derived.Test.YtikffchdembbjaaLawKit
import Derived.Deep.RegionHeld3
set_option linter.unusedVariables false
set_option linter.unusedSimpArgs false
set_option maxRecDepth 100000
namespace Go.Proofs.Ytikffchdembbjaa
open Go.ChangeShapes Go.WideShapes Go.ChangeAt Go.RowKit
open Go.ChangeMaps (open_string)

set_option maxHeartbeats 4000000 in
theorem fnFirstApart (w : World) (x0a : Int) (x1a : Int) (A2a : Option Addr) (n2a c2a : Nat) (s2a : List Int) (x3a : Int) (x0b : Int) (x1b : Int) (A2b : Option Addr) (n2b c2b : Nat) (s2b : List Int) (x3b : Int) (h2a : Sl intR w 0 w.heap.size A2a n2a c2a s2a) (i0a : I64 x0a) (i1a : I64 x1a) (i3a : I64 x3a) (h2b : Sl intR w 0 w.heap.size A2b n2b c2b s2b) (i0b : I64 x0b) (i1b : I64 x1b) (i3b : I64 x3b) :
    Calls Try.prog 4 #[.agg #[.int .i64 x0a, .int .i64 x1a, .slice A2a n2a c2a, .int .i64 x3a], .agg #[.int .i64 x0b, .int .i64 x1b, .slice A2b n2b c2b, .int .i64 x3b]] w (RetB true w) := by
  go_enter Try.func4, Try.ntmps4
  go_wp2_with fail
  refine (lawsSzOutcome _ 0 _ x0a x1a A2a n2a c2a s2a x3a (h2a.next (by (repeat (first | with_reducible exact Below.refl _ _ | with_reducible assumption | with_reducible refine below_alloc ?_ _ | ((with_reducible refine Below.setCell ?_ ?_ _); rotate_left; (· first | exact Nat.le_refl _ | (simp; done) | (simp; omega))) | with_reducible refine below_drewN ?_ _ | with_reducible refine Below.drew ?_ | with_reducible refine below_then ?_ (by with_reducible assumption))))) (Nat.le_refl _) 1048576 (by omega) (by omega)).mono ?_
  rintro e w1 ⟨ra, rfl, hra, b⟩
  have hb : Below w.heap.size w w1 := by (repeat (first | with_reducible exact Below.refl _ _ | with_reducible assumption | with_reducible refine below_alloc ?_ _ | ((with_reducible refine Below.setCell ?_ ?_ _); rotate_left; (· first | exact Nat.le_refl _ | (simp; done) | (simp; omega))) | with_reducible refine below_drewN ?_ _ | with_reducible refine Below.drew ?_ | with_reducible refine below_then ?_ (by with_reducible assumption)))
  replace h2a := h2a.next hb
  replace h2b := h2b.next hb
  obtain ⟨hcE, hfE⟩ := bcell b
  have ka0 : w1.cell? ⟨w.heap.size, 0, none⟩ = some (.int .i64 x0a) := by simp [hcE, go_sem]
  have ka1 : w1.cell? ⟨w.heap.size, 1, none⟩ = some (.int .i64 x1a) := by simp [hcE, go_sem]
  have ka2 : w1.cell? ⟨w.heap.size, 2, none⟩ = some (.slice A2a n2a c2a) := by simp [hcE, go_sem]
  have ka3 : w1.cell? ⟨w.heap.size, 3, none⟩ = some (.int .i64 x3a) := by simp [hcE, go_sem]
  have kb0 : w1.cell? ⟨w.heap.size + 1, 0, none⟩ = some (.int .i64 x0b) := by simp [hcE, go_sem]
  have kb1 : w1.cell? ⟨w.heap.size + 1, 1, none⟩ = some (.int .i64 x1b) := by simp [hcE, go_sem]
  have kb2 : w1.cell? ⟨w.heap.size + 1, 2, none⟩ = some (.slice A2b n2b c2b) := by simp [hcE, go_sem]
  have kb3 : w1.cell? ⟨w.heap.size + 1, 3, none⟩ = some (.int .i64 x3b) := by simp [hcE, go_sem]
  clear hcE hfE
  have zka : w.heap.size < w1.heap.size := World.block_lt_of_cell? w1 _ ka0
  have zkb : w.heap.size + 1 < w1.heap.size := World.block_lt_of_cell? w1 _ kb0
  clear b
  rcases hra with rfl | ⟨qa, ta⟩
  · go_wp2_with fail
    go_ret
    exact RetB.mk rfl hb
  have ma : s2a.length ≤ 1048576 := by omega
  have ua : ra ≤ 1048576 := by omega
  clear ta
  have mm2a : s2a.length ≤ 1048576 := by omega
  go_wp2_with fail
  refine (lawsSzOutcome _ 0 _ x0b x1b A2b n2b c2b s2b x3b (h2b.next (by (repeat (first | with_reducible exact Below.refl _ _ | with_reducible assumption | with_reducible refine below_alloc ?_ _ | ((with_reducible refine Below.setCell ?_ ?_ _); rotate_left; (· first | exact Nat.le_refl _ | (simp; done) | (simp; omega))) | with_reducible refine below_drewN ?_ _ | with_reducible refine Below.drew ?_ | with_reducible refine below_then ?_ (by with_reducible assumption))))) (Nat.le_refl _) ra (by omega) (by omega)).mono ?_
  rintro e w2 ⟨rb, rfl, hrb, b⟩
  have hx : Below w1.heap.size w1 w2 := by (repeat (first | with_reducible exact Below.refl _ _ | with_reducible assumption | with_reducible refine below_alloc ?_ _ | ((with_reducible refine Below.setCell ?_ ?_ _); rotate_left; (· first | exact Nat.le_refl _ | (simp; done) | (simp; omega))) | with_reducible refine below_drewN ?_ _ | with_reducible refine Below.drew ?_ | with_reducible refine below_then ?_ (by with_reducible assumption)))
  replace hb := below_then hb hx
  replace h2a := h2a.next hx
  replace h2b := h2b.next hx
  replace ka0 := below_cell hx ka0
  replace ka1 := below_cell hx ka1
  replace ka2 := below_cell hx ka2
  replace ka3 := below_cell hx ka3
  replace kb0 := below_cell hx kb0
  replace kb1 := below_cell hx kb1
  replace kb2 := below_cell hx kb2
  replace kb3 := below_cell hx kb3
  clear hx
  have zka : w.heap.size < w2.heap.size := World.block_lt_of_cell? w2 _ ka0
  have zkb : w.heap.size + 1 < w2.heap.size := World.block_lt_of_cell? w2 _ kb0
  clear b
  rcases hrb with rfl | ⟨qb, tb⟩
  · go_wp2_with fail
    go_ret
    exact RetB.mk rfl hb
  have mb : s2b.length ≤ 1048576 := by omega
  have ub : rb ≤ 1048576 := by omega
  clear tb
  have mm2b : s2b.length ≤ 1048576 := by omega
  go_wp2_with fail
  go_region_held3 (fun W => W.cell? ⟨w.heap.size, 0, none⟩ = some (.int .i64 x0a) ∧ W.cell? ⟨w.heap.size, 1, none⟩ = some (.int .i64 x1a) ∧ W.cell? ⟨w.heap.size, 2, none⟩ = some (.slice A2a n2a c2a) ∧ W.cell? ⟨w.heap.size, 3, none⟩ = some (.int .i64 x3a) ∧ W.cell? ⟨w.heap.size + 1, 0, none⟩ = some (.int .i64 x0b) ∧ W.cell? ⟨w.heap.size + 1, 1, none⟩ = some (.int .i64 x1b) ∧ W.cell? ⟨w.heap.size + 1, 2, none⟩ = some (.slice A2b n2b c2b) ∧ W.cell? ⟨w.heap.size + 1, 3, none⟩ = some (.int .i64 x3b))
    (first | exact ⟨ka0, ka1, ka2, ka3, kb0, kb1, kb2, kb3⟩ | exact ⟨below_cell bw3 ka0, below_cell bw3 ka1, below_cell bw3 ka2, below_cell bw3 ka3, below_cell bw3 kb0, below_cell bw3 kb1, below_cell bw3 kb2, below_cell bw3 kb3⟩ | exact ⟨below_cell bw4 (below_cell bw3 ka0), below_cell bw4 (below_cell bw3 ka1), below_cell bw4 (below_cell bw3 ka2), below_cell bw4 (below_cell bw3 ka3), below_cell bw4 (below_cell bw3 kb0), below_cell bw4 (below_cell bw3 kb1), below_cell bw4 (below_cell bw3 kb2), below_cell bw4 (below_cell bw3 kb3)⟩ | exact ⟨below_cell bw5 (below_cell bw4 (below_cell bw3 ka0)), below_cell bw5 (below_cell bw4 (below_cell bw3 ka1)), below_cell bw5 (below_cell bw4 (below_cell bw3 ka2)), below_cell bw5 (below_cell bw4 (below_cell bw3 ka3)), below_cell bw5 (below_cell bw4 (below_cell bw3 kb0)), below_cell bw5 (below_cell bw4 (below_cell bw3 kb1)), below_cell bw5 (below_cell bw4 (below_cell bw3 kb2)), below_cell bw5 (below_cell bw4 (below_cell bw3 kb3))⟩)
    (first | (go_at_call 18; ((with_reducible refine (lawsToOutcome _ 0 _ x0a x1a A2a n2a c2a s2a x3a (h2a.next (by (repeat (first | with_reducible exact Below.refl _ _ | with_reducible assumption | with_reducible refine below_alloc ?_ _ | ((with_reducible refine Below.setCell ?_ ?_ _); rotate_left; (· first | exact Nat.le_refl _ | (simp; done) | (simp; omega))) | with_reducible refine below_drewN ?_ _ | with_reducible refine Below.drew ?_ | with_reducible refine below_then ?_ (by with_reducible assumption))))) (Nat.le_refl _) mm2a i0a i1a i3a).mono ?_); rintro e w3 ⟨Faq, A2aq, n2aq, c2aq, rfl, oaq, faq, bw3⟩)) | (go_at_call 18; ((with_reducible refine (lawsToOutcome _ 0 _ x0b x1b A2b n2b c2b s2b x3b (h2b.next (by (repeat (first | with_reducible exact Below.refl _ _ | with_reducible assumption | with_reducible refine below_alloc ?_ _ | ((with_reducible refine Below.setCell ?_ ?_ _); rotate_left; (· first | exact Nat.le_refl _ | (simp; done) | (simp; omega))) | with_reducible refine below_drewN ?_ _ | with_reducible refine Below.drew ?_ | with_reducible refine below_then ?_ (by with_reducible assumption))))) (Nat.le_refl _) mm2b i0b i1b i3b).mono ?_); rintro e w4 ⟨Fbq, A2bq, n2bq, c2bq, rfl, obq, fbq, bw4⟩)) | (go_at_call 17; ((with_reducible refine (specFirstApartC _ x0a x1a A2aq n2aq c2aq s2a x3a x0b x1b A2bq n2bq c2bq s2b x3b ((Outcome_sl2 oaq).next (by (repeat (first | with_reducible exact Below.refl _ _ | with_reducible assumption | with_reducible refine below_alloc ?_ _ | ((with_reducible refine Below.setCell ?_ ?_ _); rotate_left; (· first | exact Nat.le_refl _ | (simp; done) | (simp; omega))) | with_reducible refine below_drewN ?_ _ | with_reducible refine Below.drew ?_ | with_reducible refine below_then ?_ (by with_reducible assumption))))) mm2a i0a i1a i3a ((Outcome_sl2 obq).next (by (repeat (first | with_reducible exact Below.refl _ _ | with_reducible assumption | with_reducible refine below_alloc ?_ _ | ((with_reducible refine Below.setCell ?_ ?_ _); rotate_left; (· first | exact Nat.le_refl _ | (simp; done) | (simp; omega))) | with_reducible refine below_drewN ?_ _ | with_reducible refine Below.drew ?_ | with_reducible refine below_then ?_ (by with_reducible assumption))))) mm2b i0b i1b i3b).mono ?_); rintro e w5 ⟨rfl, bw5⟩)))
  have hx : Below w2.heap.size w2 w5 := by (repeat (first | with_reducible exact Below.refl _ _ | with_reducible assumption | with_reducible refine below_alloc ?_ _ | ((with_reducible refine Below.setCell ?_ ?_ _); rotate_left; (· first | exact Nat.le_refl _ | (simp; done) | (simp; omega))) | with_reducible refine below_drewN ?_ _ | with_reducible refine Below.drew ?_ | with_reducible refine below_then ?_ (by with_reducible assumption)))
  replace hb := below_then hb hx
  replace h2a := h2a.next hx
  replace h2b := h2b.next hx
  replace ka0 := below_cell hx ka0
  replace ka1 := below_cell hx ka1
  replace ka2 := below_cell hx ka2
  replace ka3 := below_cell hx ka3
  replace kb0 := below_cell hx kb0
  replace kb1 := below_cell hx kb1
  replace kb2 := below_cell hx kb2
  replace kb3 := below_cell hx kb3
  clear hx
  have zka : w.heap.size < w5.heap.size := World.block_lt_of_cell? w5 _ ka0
  have zkb : w.heap.size + 1 < w5.heap.size := World.block_lt_of_cell? w5 _ kb0
  clear bw5 bw4 bw3
  clear oaq faq
  clear obq fbq
  go_wp2_with fail
  refine (lawsToOutcome _ 0 _ x0a x1a A2a n2a c2a s2a x3a (h2a.next (by (repeat (first | with_reducible exact Below.refl _ _ | with_reducible assumption | with_reducible refine below_alloc ?_ _ | ((with_reducible refine Below.setCell ?_ ?_ _); rotate_left; (· first | exact Nat.le_refl _ | (simp; done) | (simp; omega))) | with_reducible refine below_drewN ?_ _ | with_reducible refine Below.drew ?_ | with_reducible refine below_then ?_ (by with_reducible assumption))))) (Nat.le_refl _) mm2a i0a i1a i3a).mono ?_
  rintro e w6 ⟨Fax, A2ax, n2ax, c2ax, rfl, oax, fax, b⟩
  have hx : Below w5.heap.size w5 w6 := by (repeat (first | with_reducible exact Below.refl _ _ | with_reducible assumption | with_reducible refine below_alloc ?_ _ | ((with_reducible refine Below.setCell ?_ ?_ _); rotate_left; (· first | exact Nat.le_refl _ | (simp; done) | (simp; omega))) | with_reducible refine below_drewN ?_ _ | with_reducible refine Below.drew ?_ | with_reducible refine below_then ?_ (by with_reducible assumption)))
  replace hb := below_then hb hx
  replace h2a := h2a.next hx
  replace h2b := h2b.next hx
  replace ka0 := below_cell hx ka0
  replace ka1 := below_cell hx ka1
  replace ka2 := below_cell hx ka2
  replace ka3 := below_cell hx ka3
  replace kb0 := below_cell hx kb0
  replace kb1 := below_cell hx kb1
  replace kb2 := below_cell hx kb2
  replace kb3 := below_cell hx kb3
  clear hx
  have zka : w.heap.size < w6.heap.size := World.block_lt_of_cell? w6 _ ka0
  have zkb : w.heap.size + 1 < w6.heap.size := World.block_lt_of_cell? w6 _ kb0
  clear b
  have g2ax := Outcome_sl2 oax
  clear oax fax
  go_wp2_with fail
  refine (lawsToOutcome _ 0 _ x0b x1b A2b n2b c2b s2b x3b (h2b.next (by (repeat (first | with_reducible exact Below.refl _ _ | with_reducible assumption | with_reducible refine below_alloc ?_ _ | ((with_reducible refine Below.setCell ?_ ?_ _); rotate_left; (· first | exact Nat.le_refl _ | (simp; done) | (simp; omega))) | with_reducible refine below_drewN ?_ _ | with_reducible refine Below.drew ?_ | with_reducible refine below_then ?_ (by with_reducible assumption))))) (Nat.le_refl _) mm2b i0b i1b i3b).mono ?_
  rintro e w7 ⟨Fbx, A2bx, n2bx, c2bx, rfl, obx, fbx, b⟩
  have hx : Below w6.heap.size w6 w7 := by (repeat (first | with_reducible exact Below.refl _ _ | with_reducible assumption | with_reducible refine below_alloc ?_ _ | ((with_reducible refine Below.setCell ?_ ?_ _); rotate_left; (· first | exact Nat.le_refl _ | (simp; done) | (simp; omega))) | with_reducible refine below_drewN ?_ _ | with_reducible refine Below.drew ?_ | with_reducible refine below_then ?_ (by with_reducible assumption)))
  replace hb := below_then hb hx
  replace h2a := h2a.next hx
  replace h2b := h2b.next hx
  replace g2ax := g2ax.next hx
  replace ka0 := below_cell hx ka0
  replace ka1 := below_cell hx ka1
  replace ka2 := below_cell hx ka2
  replace ka3 := below_cell hx ka3
  replace kb0 := below_cell hx kb0
  replace kb1 := below_cell hx kb1
  replace kb2 := below_cell hx kb2
  replace kb3 := below_cell hx kb3
  have ja0 : w7.cell? ⟨w6.heap.size, 0, none⟩ = some (.int .i64 x0a) := below_cell b (by simp [go_sem])
  have ja1 : w7.cell? ⟨w6.heap.size, 1, none⟩ = some (.int .i64 x1a) := below_cell b (by simp [go_sem])
  have ja2 : w7.cell? ⟨w6.heap.size, 2, none⟩ = some (.slice A2ax n2ax c2ax) := below_cell b (by simp [go_sem])
  have ja3 : w7.cell? ⟨w6.heap.size, 3, none⟩ = some (.int .i64 x3a) := below_cell b (by simp [go_sem])
  clear hx
  have zka : w.heap.size < w7.heap.size := World.block_lt_of_cell? w7 _ ka0
  have zja : w6.heap.size < w7.heap.size := World.block_lt_of_cell? w7 _ ja0
  have zkb : w.heap.size + 1 < w7.heap.size := World.block_lt_of_cell? w7 _ kb0
  clear b
  have g2bx := Outcome_sl2 obx
  clear obx fbx
  go_wp2_with fail
  refine (implFirstApartC _ x0a x1a A2ax n2ax c2ax s2a x3a x0b x1b A2bx n2bx c2bx s2b x3b (g2ax.next (by (repeat (first | with_reducible exact Below.refl _ _ | with_reducible assumption | with_reducible refine below_alloc ?_ _ | ((with_reducible refine Below.setCell ?_ ?_ _); rotate_left; (· first | exact Nat.le_refl _ | (simp; done) | (simp; omega))) | with_reducible refine below_drewN ?_ _ | with_reducible refine Below.drew ?_ | with_reducible refine below_then ?_ (by with_reducible assumption))))) mm2a i0a i1a i3a (g2bx.next (by (repeat (first | with_reducible exact Below.refl _ _ | with_reducible assumption | with_reducible refine below_alloc ?_ _ | ((with_reducible refine Below.setCell ?_ ?_ _); rotate_left; (· first | exact Nat.le_refl _ | (simp; done) | (simp; omega))) | with_reducible refine below_drewN ?_ _ | with_reducible refine Below.drew ?_ | with_reducible refine below_then ?_ (by with_reducible assumption))))) mm2b i0b i1b i3b).mono ?_
  rintro e w8 ⟨rfl, b⟩
  have hx : Below w7.heap.size w7 w8 := by (repeat (first | with_reducible exact Below.refl _ _ | with_reducible assumption | with_reducible refine below_alloc ?_ _ | ((with_reducible refine Below.setCell ?_ ?_ _); rotate_left; (· first | exact Nat.le_refl _ | (simp; done) | (simp; omega))) | with_reducible refine below_drewN ?_ _ | with_reducible refine Below.drew ?_ | with_reducible refine below_then ?_ (by with_reducible assumption)))
  replace hb := below_then hb hx
  replace h2a := h2a.next hx
  replace h2b := h2b.next hx
  replace g2ax := g2ax.next hx
  replace g2bx := g2bx.next hx
  replace ka0 := below_cell hx ka0
  replace ka1 := below_cell hx ka1
  replace ka2 := below_cell hx ka2
  replace ka3 := below_cell hx ka3
  replace kb0 := below_cell hx kb0
  replace kb1 := below_cell hx kb1
  replace kb2 := below_cell hx kb2
  replace kb3 := below_cell hx kb3
  replace ja0 := below_cell hx ja0
  replace ja1 := below_cell hx ja1
  replace ja2 := below_cell hx ja2
  replace ja3 := below_cell hx ja3
  have jb0 : w8.cell? ⟨w7.heap.size, 0, none⟩ = some (.int .i64 x0b) := below_cell b (by simp [go_sem])
  have jb1 : w8.cell? ⟨w7.heap.size, 1, none⟩ = some (.int .i64 x1b) := below_cell b (by simp [go_sem])
  have jb2 : w8.cell? ⟨w7.heap.size, 2, none⟩ = some (.slice A2bx n2bx c2bx) := below_cell b (by simp [go_sem])
  have jb3 : w8.cell? ⟨w7.heap.size, 3, none⟩ = some (.int .i64 x3b) := below_cell b (by simp [go_sem])
  clear hx
  have zka : w.heap.size < w8.heap.size := World.block_lt_of_cell? w8 _ ka0
  have zja : w6.heap.size < w8.heap.size := World.block_lt_of_cell? w8 _ ja0
  have zkb : w.heap.size + 1 < w8.heap.size := World.block_lt_of_cell? w8 _ kb0
  have zjb : w7.heap.size < w8.heap.size := World.block_lt_of_cell? w8 _ jb0
  clear b
  have hE := eqB_true (rfl : (x0a, x1a, s2a, x3a) = (x0a, x1a, s2a, x3a))
  go_wp2_with fail
  go_region_held3 (fun W => W.cell? ⟨w.heap.size, 0, none⟩ = some (.int .i64 x0a) ∧ W.cell? ⟨w.heap.size, 1, none⟩ = some (.int .i64 x1a) ∧ W.cell? ⟨w.heap.size, 2, none⟩ = some (.slice A2a n2a c2a) ∧ W.cell? ⟨w.heap.size, 3, none⟩ = some (.int .i64 x3a) ∧ W.cell? ⟨w6.heap.size, 0, none⟩ = some (.int .i64 x0a) ∧ W.cell? ⟨w6.heap.size, 1, none⟩ = some (.int .i64 x1a) ∧ W.cell? ⟨w6.heap.size, 2, none⟩ = some (.slice A2ax n2ax c2ax) ∧ W.cell? ⟨w6.heap.size, 3, none⟩ = some (.int .i64 x3a))
    (first | exact ⟨ka0, ka1, ka2, ka3, ja0, ja1, ja2, ja3⟩ | exact ⟨below_cell bw9 ka0, below_cell bw9 ka1, below_cell bw9 ka2, below_cell bw9 ka3, below_cell bw9 ja0, below_cell bw9 ja1, below_cell bw9 ja2, below_cell bw9 ja3⟩ | exact ⟨below_cell bw10 (below_cell bw9 ka0), below_cell bw10 (below_cell bw9 ka1), below_cell bw10 (below_cell bw9 ka2), below_cell bw10 (below_cell bw9 ka3), below_cell bw10 (below_cell bw9 ja0), below_cell bw10 (below_cell bw9 ja1), below_cell bw10 (below_cell bw9 ja2), below_cell bw10 (below_cell bw9 ja3)⟩)
    (first | (go_at_call 18; ((with_reducible refine (lawsToOutcome _ 0 _ x0a x1a A2a n2a c2a s2a x3a (h2a.next (by (repeat (first | with_reducible exact Below.refl _ _ | with_reducible assumption | with_reducible refine below_alloc ?_ _ | ((with_reducible refine Below.setCell ?_ ?_ _); rotate_left; (· first | exact Nat.le_refl _ | (simp; done) | (simp; omega))) | with_reducible refine below_drewN ?_ _ | with_reducible refine Below.drew ?_ | with_reducible refine below_then ?_ (by with_reducible assumption))))) (Nat.le_refl _) mm2a i0a i1a i3a).mono ?_); rintro e w9 ⟨Fay, A2ay, n2ay, c2ay, rfl, oay, fay, bw9⟩)) | (go_at_call 20; ((with_reducible refine (lawsEqOutcome _ 0 _ 0 _ x0a x1a A2ax n2ax c2ax s2a x3a x0a x1a A2ay n2ay c2ay s2a x3a (g2ax.next (by (repeat (first | with_reducible exact Below.refl _ _ | with_reducible assumption | with_reducible refine below_alloc ?_ _ | ((with_reducible refine Below.setCell ?_ ?_ _); rotate_left; (· first | exact Nat.le_refl _ | (simp; done) | (simp; omega))) | with_reducible refine below_drewN ?_ _ | with_reducible refine Below.drew ?_ | with_reducible refine below_then ?_ (by with_reducible assumption))))) ((Outcome_sl2 oay).next (by (repeat (first | with_reducible exact Below.refl _ _ | with_reducible assumption | with_reducible refine below_alloc ?_ _ | ((with_reducible refine Below.setCell ?_ ?_ _); rotate_left; (· first | exact Nat.le_refl _ | (simp; done) | (simp; omega))) | with_reducible refine below_drewN ?_ _ | with_reducible refine Below.drew ?_ | with_reducible refine below_then ?_ (by with_reducible assumption))))) (Nat.le_refl _) (Nat.le_refl _)).mono ?_); rintro e w10 ⟨rfl, bw10⟩)))
  have hx : Below w8.heap.size w8 w10 := by (repeat (first | with_reducible exact Below.refl _ _ | with_reducible assumption | with_reducible refine below_alloc ?_ _ | ((with_reducible refine Below.setCell ?_ ?_ _); rotate_left; (· first | exact Nat.le_refl _ | (simp; done) | (simp; omega))) | with_reducible refine below_drewN ?_ _ | with_reducible refine Below.drew ?_ | with_reducible refine below_then ?_ (by with_reducible assumption)))
  replace hb := below_then hb hx
  replace h2a := h2a.next hx
  replace h2b := h2b.next hx
  replace g2ax := g2ax.next hx
  replace g2bx := g2bx.next hx
  replace ka0 := below_cell hx ka0
  replace ka1 := below_cell hx ka1
  replace ka2 := below_cell hx ka2
  replace ka3 := below_cell hx ka3
  replace kb0 := below_cell hx kb0
  replace kb1 := below_cell hx kb1
  replace kb2 := below_cell hx kb2
  replace kb3 := below_cell hx kb3
  replace ja0 := below_cell hx ja0
  replace ja1 := below_cell hx ja1
  replace ja2 := below_cell hx ja2
  replace ja3 := below_cell hx ja3
  replace jb0 := below_cell hx jb0
  replace jb1 := below_cell hx jb1
  replace jb2 := below_cell hx jb2
  replace jb3 := below_cell hx jb3
  clear hx
  have zka : w.heap.size < w10.heap.size := World.block_lt_of_cell? w10 _ ka0
  have zja : w6.heap.size < w10.heap.size := World.block_lt_of_cell? w10 _ ja0
  have zkb : w.heap.size + 1 < w10.heap.size := World.block_lt_of_cell? w10 _ kb0
  have zjb : w7.heap.size < w10.heap.size := World.block_lt_of_cell? w10 _ jb0
  clear bw10 bw9 oay fay hE
  have hE := eqB_true (rfl : (x0b, x1b, s2b, x3b) = (x0b, x1b, s2b, x3b))
  go_wp2_with fail
  go_region_held3 (fun W => W.cell? ⟨w.heap.size + 1, 0, none⟩ = some (.int .i64 x0b) ∧ W.cell? ⟨w.heap.size + 1, 1, none⟩ = some (.int .i64 x1b) ∧ W.cell? ⟨w.heap.size + 1, 2, none⟩ = some (.slice A2b n2b c2b) ∧ W.cell? ⟨w.heap.size + 1, 3, none⟩ = some (.int .i64 x3b) ∧ W.cell? ⟨w7.heap.size, 0, none⟩ = some (.int .i64 x0b) ∧ W.cell? ⟨w7.heap.size, 1, none⟩ = some (.int .i64 x1b) ∧ W.cell? ⟨w7.heap.size, 2, none⟩ = some (.slice A2bx n2bx c2bx) ∧ W.cell? ⟨w7.heap.size, 3, none⟩ = some (.int .i64 x3b))
    (first | exact ⟨kb0, kb1, kb2, kb3, jb0, jb1, jb2, jb3⟩ | exact ⟨below_cell bw11 kb0, below_cell bw11 kb1, below_cell bw11 kb2, below_cell bw11 kb3, below_cell bw11 jb0, below_cell bw11 jb1, below_cell bw11 jb2, below_cell bw11 jb3⟩ | exact ⟨below_cell bw12 (below_cell bw11 kb0), below_cell bw12 (below_cell bw11 kb1), below_cell bw12 (below_cell bw11 kb2), below_cell bw12 (below_cell bw11 kb3), below_cell bw12 (below_cell bw11 jb0), below_cell bw12 (below_cell bw11 jb1), below_cell bw12 (below_cell bw11 jb2), below_cell bw12 (below_cell bw11 jb3)⟩)
    (first | (go_at_call 18; ((with_reducible refine (lawsToOutcome _ 0 _ x0b x1b A2b n2b c2b s2b x3b (h2b.next (by (repeat (first | with_reducible exact Below.refl _ _ | with_reducible assumption | with_reducible refine below_alloc ?_ _ | ((with_reducible refine Below.setCell ?_ ?_ _); rotate_left; (· first | exact Nat.le_refl _ | (simp; done) | (simp; omega))) | with_reducible refine below_drewN ?_ _ | with_reducible refine Below.drew ?_ | with_reducible refine below_then ?_ (by with_reducible assumption))))) (Nat.le_refl _) mm2b i0b i1b i3b).mono ?_); rintro e w11 ⟨Fby, A2by, n2by, c2by, rfl, oby, fby, bw11⟩)) | (go_at_call 20; ((with_reducible refine (lawsEqOutcome _ 0 _ 0 _ x0b x1b A2bx n2bx c2bx s2b x3b x0b x1b A2by n2by c2by s2b x3b (g2bx.next (by (repeat (first | with_reducible exact Below.refl _ _ | with_reducible assumption | with_reducible refine below_alloc ?_ _ | ((with_reducible refine Below.setCell ?_ ?_ _); rotate_left; (· first | exact Nat.le_refl _ | (simp; done) | (simp; omega))) | with_reducible refine below_drewN ?_ _ | with_reducible refine Below.drew ?_ | with_reducible refine below_then ?_ (by with_reducible assumption))))) ((Outcome_sl2 oby).next (by (repeat (first | with_reducible exact Below.refl _ _ | with_reducible assumption | with_reducible refine below_alloc ?_ _ | ((with_reducible refine Below.setCell ?_ ?_ _); rotate_left; (· first | exact Nat.le_refl _ | (simp; done) | (simp; omega))) | with_reducible refine below_drewN ?_ _ | with_reducible refine Below.drew ?_ | with_reducible refine below_then ?_ (by with_reducible assumption))))) (Nat.le_refl _) (Nat.le_refl _)).mono ?_); rintro e w12 ⟨rfl, bw12⟩)))
  have hx : Below w10.heap.size w10 w12 := by (repeat (first | with_reducible exact Below.refl _ _ | with_reducible assumption | with_reducible refine below_alloc ?_ _ | ((with_reducible refine Below.setCell ?_ ?_ _); rotate_left; (· first | exact Nat.le_refl _ | (simp; done) | (simp; omega))) | with_reducible refine below_drewN ?_ _ | with_reducible refine Below.drew ?_ | with_reducible refine below_then ?_ (by with_reducible assumption)))
  replace hb := below_then hb hx
  replace h2a := h2a.next hx
  replace h2b := h2b.next hx
  replace g2ax := g2ax.next hx
  replace g2bx := g2bx.next hx
  replace ka0 := below_cell hx ka0
  replace ka1 := below_cell hx ka1
  replace ka2 := below_cell hx ka2
  replace ka3 := below_cell hx ka3
  replace kb0 := below_cell hx kb0
  replace kb1 := below_cell hx kb1
  replace kb2 := below_cell hx kb2
  replace kb3 := below_cell hx kb3
  replace ja0 := below_cell hx ja0
  replace ja1 := below_cell hx ja1
  replace ja2 := below_cell hx ja2
  replace ja3 := below_cell hx ja3
  replace jb0 := below_cell hx jb0
  replace jb1 := below_cell hx jb1
  replace jb2 := below_cell hx jb2
  replace jb3 := below_cell hx jb3
  clear hx
  have zka : w.heap.size < w12.heap.size := World.block_lt_of_cell? w12 _ ka0
  have zja : w6.heap.size < w12.heap.size := World.block_lt_of_cell? w12 _ ja0
  have zkb : w.heap.size + 1 < w12.heap.size := World.block_lt_of_cell? w12 _ kb0
  have zjb : w7.heap.size < w12.heap.size := World.block_lt_of_cell? w12 _ jb0
  clear bw12 bw11 oby fby hE
  go_wp2_with fail
  go_ret
  exact RetB.mk rfl hb

theorem fnFirstApartA (w : World) (csa : Array Value) (ea : Outcome) (hla : OutcomeR.rel w 0 w.heap.size csa.toList ea) (csb : Array Value) (eb : Outcome) (hlb : OutcomeR.rel w 0 w.heap.size csb.toList eb) :
    Calls Try.prog 4 #[.agg csa, .agg csb] w (RetB true w) := by
  obtain ⟨x0a, x1a, A2a, n2a, c2a, s2a, x3a, hca, hea, i0a, i1a, h2a, i3a⟩ := Outcome_rel hla
  obtain ⟨csa⟩ := csa
  simp only at hca
  subst hca hea
  obtain ⟨x0b, x1b, A2b, n2b, c2b, s2b, x3b, hcb, heb, i0b, i1b, h2b, i3b⟩ := Outcome_rel hlb
  obtain ⟨csb⟩ := csb
  simp only at hcb
  subst hcb heb
  exact fnFirstApart w x0a x1a A2a n2a c2a s2a x3a x0b x1b A2b n2b c2b s2b x3b h2a i0a i1a i3a h2b i0b i1b i3b

set_option maxRecDepth 100000 in
theorem firstApart_lifted (os : Os) (started : os.Started) (H : Type) (enc : TypeId × Value → H) :
    ReturnsInHanded {} Try.checked os 4 .any (Rows.fnExactFirstApartSpec.pre6 enc Try.prog Try.f4 Rows.fnExactFirstApartRow.domain false) (Rows.fnExactFirstApartSpec.post enc Try.prog Try.f4 false true false false) := by
  refine returnsInHanded_of_change (C := Try.checked) Try.own started (by kernel_rfl) Try.func4
    (ChangeSpec.witness6 (enc := enc) (C := Try.checked) false ⟨#[], #[.agg #[.int .i64 0, .int .i64 0, .slice none 0 0, .int .i64 0], .agg #[.int .i64 0, .int .i64 0, .slice none 0 0, .int .i64 0]], []⟩ 8 (by kernel_rfl) (by kernel_rfl) (by kernel_rfl) (by kernel_rfl)) ?_
  intro W base args ds gs before hval0 hW hcnd _
  have hval : ∀ (j : Nat) t v, Try.f4.params[j]? = some t → args[j]? = some v → Value.okWide Try.prog W .any base t v := hval0
  have hW' := hW
  obtain ⟨p, q, hA0, hV, rfl, hfz, hnd⟩ := hW
  have hA : DataW.TrodAll enc Try.prog W 0 (fun _ => true) true Try.f4.params.toList args.toList ds p := hA0
  rw [Try.params4] at hA hval
  obtain ⟨v0, v1, d0, d1, p0, p1, rfl, rfl, rfl, h0, h1⟩ := trodAll_two hA
  obtain ⟨cs0, a0, rfl, hl0⟩ := rd_arg_agg rdOutcome Try.underlying27 (hval 0 27 v0 rfl rfl) h0
  obtain ⟨cs1, a1, rfl, hl1⟩ := rd_arg_agg rdOutcome Try.underlying27 (hval 1 27 v1 rfl rfl) h1
  refine (fnFirstApartA W cs0 a0 hl0 cs1 a1 hl1).mono fun e W' ⟨he, hb⟩ => ?_
  subst he
  obtain ⟨rfl, rfl⟩ := trodVars_none hV
  refine ⟨_, rfl, law_post (T := 4) hW' rfl Try.laidOut ?_ rfl Try.underlying4 rfl hb⟩
  rw [Try.params4]
  intro t ht
  simp only [List.mem_cons, List.mem_nil_iff, or_false] at ht
  rcases ht with rfl | rfl
  · exact ⟨by kernel_rfl, of_decide_eq_true (by kernel_rfl)⟩
  · exact ⟨by kernel_rfl, of_decide_eq_true (by kernel_rfl)⟩

/-- FnExactFirstApart answers true whatever its arguments. -/
theorem firstApart_holds : Rows.FnExactFirstApartSaid :=
  OpenClaim.holds_of_wide 4 Try.f4 rfl rfl rfl rfl rfl rfl rfl ⟨rfl, rfl, rfl, rfl, rfl⟩ rfl rfl rfl rfl rfl (by kernel_rfl) Try.func4 (by kernel_rfl)
    (of_decide_eq_true (by kernel_rfl)) (by unfold Func.isWrapper; rw [if_neg (of_decide_eq_false (by kernel_rfl))]; exact ⟨rfl, rfl⟩)
    (fun os started H enc _ => firstApart_lifted os started H enc)
#print axioms firstApart_holds
end Go.Proofs.Ytikffchdembbjaa
