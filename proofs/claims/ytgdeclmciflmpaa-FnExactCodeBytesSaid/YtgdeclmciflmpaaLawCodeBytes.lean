/- For every code the program's CodeBytes returns what the reference's returns: FnExactCodeBytes returns true, and its argument reads as it did. No condition beyond the row's own. -/
import Derived.Test.YtgdeclmciflmpaaCdC
import Derived.Test.YtgdeclmciflmpaaKit1
import Derived.Deep.RegionHeld3
set_option linter.unusedVariables false
set_option linter.unusedSimpArgs false
set_option maxRecDepth 100000
namespace Go.Proofs.Ytgdeclmciflmpaa
open Go.ChangeShapes Go.WideShapes Go.ChangeAt Go.RowKit
open Go.ChangeMaps (open_string)

set_option maxHeartbeats 4000000 in
theorem fnCodeBytes (w : World) (x0a : Int) (x1a : Int) (A2a : Option Addr) (n2a c2a : Nat) (s2a : List Int) (A3a : Option Addr) (n3a c3a : Nat) (s3a : List Ins) (A4a : Option Addr) (n4a c4a : Nat) (s4a : List Row) (h2a : Sl intR w 0 w.heap.size A2a n2a c2a s2a) (h3a : Sl InsR w 0 w.heap.size A3a n3a c3a s3a) (h4a : Sl RowR w 0 w.heap.size A4a n4a c4a s4a) (i0a : I64 x0a) (i1a : I64 x1a) :
    Calls Try.prog 4 #[.agg #[.int .i64 x0a, .int .i64 x1a, .slice A2a n2a c2a, .slice A3a n3a c3a, .slice A4a n4a c4a]] w (RetB true w) := by
  go_enter Try.func4, Try.ntmps4
  go_wp2_with fail
  refine (lawsSzCode _ 0 _ x0a x1a A2a n2a c2a s2a A3a n3a c3a s3a A4a n4a c4a s4a (h2a.next (by exact belA)) (h3a.next (by exact belA)) (h4a.next (by exact belA)) (Nat.le_refl _) 1048576 (by omega) (by omega)).mono ?_
  rintro e w1 ⟨ra, rfl, hra, b⟩
  have hb : Below w.heap.size w w1 := by exact belA
  replace h2a := h2a.next hb
  replace h3a := h3a.next hb
  replace h4a := h4a.next hb
  obtain ⟨hcE, hfE⟩ := bcell b
  have ka0 : w1.cell? ⟨w.heap.size, 0, none⟩ = some (.int .i64 x0a) := by simp [hcE, go_sem]
  have ka1 : w1.cell? ⟨w.heap.size, 1, none⟩ = some (.int .i64 x1a) := by simp [hcE, go_sem]
  have ka2 : w1.cell? ⟨w.heap.size, 2, none⟩ = some (.slice A2a n2a c2a) := by simp [hcE, go_sem]
  have ka3 : w1.cell? ⟨w.heap.size, 3, none⟩ = some (.slice A3a n3a c3a) := by simp [hcE, go_sem]
  have ka4 : w1.cell? ⟨w.heap.size, 4, none⟩ = some (.slice A4a n4a c4a) := by simp [hcE, go_sem]
  clear hcE hfE
  have zka : w.heap.size < w1.heap.size := World.block_lt_of_cell? w1 _ ka0
  clear b
  rcases hra with rfl | ⟨qa, ta⟩
  · go_wp2_with fail
    go_ret
    exact RetB.mk rfl hb
  have ma : s2a.length + s3a.length + s4a.length ≤ 1048576 := by omega
  have ua : ra ≤ 1048576 := by omega
  clear ta
  have mm2a : s2a.length ≤ 1048576 := by omega
  have mm3a : s3a.length ≤ 1048576 := by omega
  have mm4a : s4a.length ≤ 1048576 := by omega
  go_wp2_with fail
  refine (lawsToCode _ 0 _ x0a x1a A2a n2a c2a s2a A3a n3a c3a s3a A4a n4a c4a s4a (h2a.next (by exact belA)) (h3a.next (by exact belA)) (h4a.next (by exact belA)) (Nat.le_refl _) mm2a mm3a mm4a i0a i1a).mono ?_
  rintro e w2 ⟨Faq, A2aq, n2aq, c2aq, A3aq, n3aq, c3aq, A4aq, n4aq, c4aq, rfl, oaq, faq, b⟩
  have hx : Below w1.heap.size w1 w2 := by exact belA
  replace hb := below_then hb hx
  replace h2a := h2a.next hx
  replace h3a := h3a.next hx
  replace h4a := h4a.next hx
  replace ka0 := below_cell hx ka0
  replace ka1 := below_cell hx ka1
  replace ka2 := below_cell hx ka2
  replace ka3 := below_cell hx ka3
  replace ka4 := below_cell hx ka4
  clear hx
  have zka : w.heap.size < w2.heap.size := World.block_lt_of_cell? w2 _ ka0
  clear b
  have g2aq := Code_sl2 oaq
  have g3aq := Code_sl3 oaq
  have g4aq := Code_sl4 oaq
  clear oaq faq
  go_wp2_with fail
  refine (specCodeBytesC _ x0a x1a A2aq n2aq c2aq s2a A3aq n3aq c3aq s3a A4aq n4aq c4aq s4a (g2aq.next (by exact belA)) (g3aq.next (by exact belA)) (g4aq.next (by exact belA)) mm2a mm3a mm4a i0a i1a).mono ?_
  rintro e w3 ⟨rfl, b⟩
  have hx : Below w2.heap.size w2 w3 := by exact belA
  replace hb := below_then hb hx
  replace h2a := h2a.next hx
  replace h3a := h3a.next hx
  replace h4a := h4a.next hx
  replace g2aq := g2aq.next hx
  replace g3aq := g3aq.next hx
  replace g4aq := g4aq.next hx
  replace ka0 := below_cell hx ka0
  replace ka1 := below_cell hx ka1
  replace ka2 := below_cell hx ka2
  replace ka3 := below_cell hx ka3
  replace ka4 := below_cell hx ka4
  clear hx
  have zka : w.heap.size < w3.heap.size := World.block_lt_of_cell? w3 _ ka0
  clear b
  clear g2aq
  clear g3aq
  clear g4aq
  go_wp2_with fail
  refine (lawsToCode _ 0 _ x0a x1a A2a n2a c2a s2a A3a n3a c3a s3a A4a n4a c4a s4a (h2a.next (by exact belA)) (h3a.next (by exact belA)) (h4a.next (by exact belA)) (Nat.le_refl _) mm2a mm3a mm4a i0a i1a).mono ?_
  rintro e w4 ⟨Fax, A2ax, n2ax, c2ax, A3ax, n3ax, c3ax, A4ax, n4ax, c4ax, rfl, oax, fax, b⟩
  have hx : Below w3.heap.size w3 w4 := by exact belA
  replace hb := below_then hb hx
  replace h2a := h2a.next hx
  replace h3a := h3a.next hx
  replace h4a := h4a.next hx
  replace ka0 := below_cell hx ka0
  replace ka1 := below_cell hx ka1
  replace ka2 := below_cell hx ka2
  replace ka3 := below_cell hx ka3
  replace ka4 := below_cell hx ka4
  clear hx
  have zka : w.heap.size < w4.heap.size := World.block_lt_of_cell? w4 _ ka0
  clear b
  have g2ax := Code_sl2 oax
  have g3ax := Code_sl3 oax
  have g4ax := Code_sl4 oax
  clear oax fax
  go_wp2_with fail
  refine (implCodeBytesC _ x0a x1a A2ax n2ax c2ax s2a A3ax n3ax c3ax s3a A4ax n4ax c4ax s4a (g2ax.next (by exact belA)) (g3ax.next (by exact belA)) (g4ax.next (by exact belA)) mm2a mm3a mm4a i0a i1a).mono ?_
  rintro e w5 ⟨rfl, b⟩
  have hx : Below w4.heap.size w4 w5 := by exact belA
  replace hb := below_then hb hx
  replace h2a := h2a.next hx
  replace h3a := h3a.next hx
  replace h4a := h4a.next hx
  replace g2ax := g2ax.next hx
  replace g3ax := g3ax.next hx
  replace g4ax := g4ax.next hx
  replace ka0 := below_cell hx ka0
  replace ka1 := below_cell hx ka1
  replace ka2 := below_cell hx ka2
  replace ka3 := below_cell hx ka3
  replace ka4 := below_cell hx ka4
  have ja0 : w5.cell? ⟨w4.heap.size, 0, none⟩ = some (.int .i64 x0a) := below_cell b (by simp [go_sem])
  have ja1 : w5.cell? ⟨w4.heap.size, 1, none⟩ = some (.int .i64 x1a) := below_cell b (by simp [go_sem])
  have ja2 : w5.cell? ⟨w4.heap.size, 2, none⟩ = some (.slice A2ax n2ax c2ax) := below_cell b (by simp [go_sem])
  have ja3 : w5.cell? ⟨w4.heap.size, 3, none⟩ = some (.slice A3ax n3ax c3ax) := below_cell b (by simp [go_sem])
  have ja4 : w5.cell? ⟨w4.heap.size, 4, none⟩ = some (.slice A4ax n4ax c4ax) := below_cell b (by simp [go_sem])
  clear hx
  have zka : w.heap.size < w5.heap.size := World.block_lt_of_cell? w5 _ ka0
  have zja : w4.heap.size < w5.heap.size := World.block_lt_of_cell? w5 _ ja0
  clear b
  have hE := eqB_true (rfl : (x0a, x1a, s2a, s3a, s4a) = (x0a, x1a, s2a, s3a, s4a))
  go_wp2_with fail
  go_region_held3 (fun W => W.cell? ⟨w.heap.size, 0, none⟩ = some (.int .i64 x0a) ∧ W.cell? ⟨w.heap.size, 1, none⟩ = some (.int .i64 x1a) ∧ W.cell? ⟨w.heap.size, 2, none⟩ = some (.slice A2a n2a c2a) ∧ W.cell? ⟨w.heap.size, 3, none⟩ = some (.slice A3a n3a c3a) ∧ W.cell? ⟨w.heap.size, 4, none⟩ = some (.slice A4a n4a c4a) ∧ W.cell? ⟨w4.heap.size, 0, none⟩ = some (.int .i64 x0a) ∧ W.cell? ⟨w4.heap.size, 1, none⟩ = some (.int .i64 x1a) ∧ W.cell? ⟨w4.heap.size, 2, none⟩ = some (.slice A2ax n2ax c2ax) ∧ W.cell? ⟨w4.heap.size, 3, none⟩ = some (.slice A3ax n3ax c3ax) ∧ W.cell? ⟨w4.heap.size, 4, none⟩ = some (.slice A4ax n4ax c4ax))
    (first | exact ⟨ka0, ka1, ka2, ka3, ka4, ja0, ja1, ja2, ja3, ja4⟩ | exact ⟨below_cell bw6 ka0, below_cell bw6 ka1, below_cell bw6 ka2, below_cell bw6 ka3, below_cell bw6 ka4, below_cell bw6 ja0, below_cell bw6 ja1, below_cell bw6 ja2, below_cell bw6 ja3, below_cell bw6 ja4⟩ | exact ⟨below_cell bw7 (below_cell bw6 ka0), below_cell bw7 (below_cell bw6 ka1), below_cell bw7 (below_cell bw6 ka2), below_cell bw7 (below_cell bw6 ka3), below_cell bw7 (below_cell bw6 ka4), below_cell bw7 (below_cell bw6 ja0), below_cell bw7 (below_cell bw6 ja1), below_cell bw7 (below_cell bw6 ja2), below_cell bw7 (below_cell bw6 ja3), below_cell bw7 (below_cell bw6 ja4)⟩)
    (first | (go_at_call 16; ((with_reducible refine (lawsToCode _ 0 _ x0a x1a A2a n2a c2a s2a A3a n3a c3a s3a A4a n4a c4a s4a (h2a.next (by exact belA)) (h3a.next (by exact belA)) (h4a.next (by exact belA)) (Nat.le_refl _) mm2a mm3a mm4a i0a i1a).mono ?_); rintro e w6 ⟨Fay, A2ay, n2ay, c2ay, A3ay, n3ay, c3ay, A4ay, n4ay, c4ay, rfl, oay, fay, bw6⟩)) | (go_at_call 18; ((with_reducible refine (lawsEqCode _ 0 _ 0 _ x0a x1a A2ax n2ax c2ax s2a A3ax n3ax c3ax s3a A4ax n4ax c4ax s4a x0a x1a A2ay n2ay c2ay s2a A3ay n3ay c3ay s3a A4ay n4ay c4ay s4a (g2ax.next (by exact belA)) (g3ax.next (by exact belA)) (g4ax.next (by exact belA)) ((Code_sl2 oay).next (by exact belA)) ((Code_sl3 oay).next (by exact belA)) ((Code_sl4 oay).next (by exact belA)) (Nat.le_refl _) (Nat.le_refl _)).mono ?_); rintro e w7 ⟨rfl, bw7⟩)))
  have hx : Below w5.heap.size w5 w7 := by exact belA
  replace hb := below_then hb hx
  replace h2a := h2a.next hx
  replace h3a := h3a.next hx
  replace h4a := h4a.next hx
  replace g2ax := g2ax.next hx
  replace g3ax := g3ax.next hx
  replace g4ax := g4ax.next hx
  replace ka0 := below_cell hx ka0
  replace ka1 := below_cell hx ka1
  replace ka2 := below_cell hx ka2
  replace ka3 := below_cell hx ka3
  replace ka4 := below_cell hx ka4
  replace ja0 := below_cell hx ja0
  replace ja1 := below_cell hx ja1
  replace ja2 := below_cell hx ja2
  replace ja3 := below_cell hx ja3
  replace ja4 := below_cell hx ja4
  clear hx
  have zka : w.heap.size < w7.heap.size := World.block_lt_of_cell? w7 _ ka0
  have zja : w4.heap.size < w7.heap.size := World.block_lt_of_cell? w7 _ ja0
  clear bw7 bw6 oay fay hE
  go_wp2_with fail
  go_ret
  exact RetB.mk rfl hb

theorem fnCodeBytesA (w : World) (csa : Array Value) (ea : Code) (hla : CodeR.rel w 0 w.heap.size csa.toList ea) :
    Calls Try.prog 4 #[.agg csa] w (RetB true w) := by
  obtain ⟨x0a, x1a, A2a, n2a, c2a, s2a, A3a, n3a, c3a, s3a, A4a, n4a, c4a, s4a, hca, hea, i0a, i1a, h2a, h3a, h4a⟩ := Code_rel hla
  obtain ⟨csa⟩ := csa
  simp only at hca
  subst hca hea
  exact fnCodeBytes w x0a x1a A2a n2a c2a s2a A3a n3a c3a s3a A4a n4a c4a s4a h2a h3a h4a i0a i1a

end Go.Proofs.Ytgdeclmciflmpaa
