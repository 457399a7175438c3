/- For every image the program's ImageBytes returns what the reference's returns: FnExactImageBytes returns true, and its argument reads as it did. No condition beyond the row's own. -/
import Derived.Test.YtcpjcgefkpgfjaaGreatImBs
import Derived.Test.YtcpjcgefkpgfjaaGreatKit1
import Derived.Deep.RegionHeld3
set_option linter.unusedVariables false
set_option linter.unusedSimpArgs false
set_option maxRecDepth 100000
namespace Go.Proofs.YtcpjcgefkpgfjaaGreat
open Go.ChangeShapes Go.WideShapes Go.ChangeAt Go.RowKit
open Go.ChangeMaps (open_string)

set_option maxHeartbeats 4000000 in
theorem fnImageBytes (w : World) (A0a : Option Addr) (n0a c0a : Nat) (s0a : List Code) (h0a : Sl CodeR w 0 w.heap.size A0a n0a c0a s0a)  :
    Calls Tryz.prog 3 #[.agg #[.slice A0a n0a c0a]] w (RetB true w) := by
  go_enter Tryz.func3, Tryz.ntmps3
  go_wp2_with fail
  refine (lawsSzImage _ 0 _ A0a n0a c0a s0a (h0a.next (by exact belA)) (Nat.le_refl _) 1048576 (by omega) (by omega)).mono ?_
  rintro e w1 ⟨ra, rfl, hra, b⟩
  have hb : Below w.heap.size w w1 := by exact belA
  replace h0a := h0a.next hb
  obtain ⟨hcE, hfE⟩ := bcell b
  have ka0 : w1.cell? ⟨w.heap.size, 0, none⟩ = some (.slice A0a n0a c0a) := by simp [hcE, go_sem]
  clear hcE hfE
  have zka : w.heap.size < w1.heap.size := World.block_lt_of_cell? w1 _ ka0
  clear b
  rcases hra with rfl | ⟨qa, ta⟩
  · go_wp2_with fail
    go_ret
    exact RetB.mk rfl hb
  have ma : mszLCode s0a ≤ 1048576 := by omega
  have ua : ra ≤ 1048576 := by omega
  clear ta
  have mm0a : mszLCode s0a ≤ 1048576 := by omega
  go_wp2_with fail
  refine (lawsToImage _ 0 _ A0a n0a c0a s0a (h0a.next (by exact belA)) (Nat.le_refl _) mm0a ).mono ?_
  rintro e w2 ⟨Faq, A0aq, n0aq, c0aq, rfl, oaq, faq, b⟩
  have hx : Below w1.heap.size w1 w2 := by exact belA
  replace hb := below_then hb hx
  replace h0a := h0a.next hx
  replace ka0 := below_cell hx ka0
  clear hx
  have zka : w.heap.size < w2.heap.size := World.block_lt_of_cell? w2 _ ka0
  clear b
  have g0aq := Image_sl0 oaq
  clear oaq faq
  go_wp2_with fail
  refine (specImageBytesC _ A0aq n0aq c0aq s0a (g0aq.next (by exact belA)) mm0a).mono ?_
  rintro e w3 ⟨rfl, b⟩
  have hx : Below w2.heap.size w2 w3 := by exact belA
  replace hb := below_then hb hx
  replace h0a := h0a.next hx
  replace g0aq := g0aq.next hx
  replace ka0 := below_cell hx ka0
  clear hx
  have zka : w.heap.size < w3.heap.size := World.block_lt_of_cell? w3 _ ka0
  clear b
  clear g0aq
  go_wp2_with fail
  refine (lawsToImage _ 0 _ A0a n0a c0a s0a (h0a.next (by exact belA)) (Nat.le_refl _) mm0a ).mono ?_
  rintro e w4 ⟨Fax, A0ax, n0ax, c0ax, rfl, oax, fax, b⟩
  have hx : Below w3.heap.size w3 w4 := by exact belA
  replace hb := below_then hb hx
  replace h0a := h0a.next hx
  replace ka0 := below_cell hx ka0
  clear hx
  have zka : w.heap.size < w4.heap.size := World.block_lt_of_cell? w4 _ ka0
  clear b
  have g0ax := Image_sl0 oax
  clear oax fax
  go_wp2_with fail
  refine (implImageBytesC _ A0ax n0ax c0ax s0a (g0ax.next (by exact belA)) mm0a).mono ?_
  rintro e w5 ⟨rfl, b⟩
  have hx : Below w4.heap.size w4 w5 := by exact belA
  replace hb := below_then hb hx
  replace h0a := h0a.next hx
  replace g0ax := g0ax.next hx
  replace ka0 := below_cell hx ka0
  have ja0 : w5.cell? ⟨w4.heap.size, 0, none⟩ = some (.slice A0ax n0ax c0ax) := below_cell b (by simp [go_sem])
  clear hx
  have zka : w.heap.size < w5.heap.size := World.block_lt_of_cell? w5 _ ka0
  have zja : w4.heap.size < w5.heap.size := World.block_lt_of_cell? w5 _ ja0
  clear b
  have hE := eqB_true (rfl : s0a = s0a)
  go_wp2_with fail
  go_region_held3 (fun W => W.cell? ⟨w.heap.size, 0, none⟩ = some (.slice A0a n0a c0a) ∧ W.cell? ⟨w4.heap.size, 0, none⟩ = some (.slice A0ax n0ax c0ax))
    (first | exact ⟨ka0, ja0⟩ | exact ⟨below_cell bw6 ka0, below_cell bw6 ja0⟩ | exact ⟨below_cell bw7 (below_cell bw6 ka0), below_cell bw7 (below_cell bw6 ja0)⟩)
    (first | (go_at_call 6; ((with_reducible refine (lawsToImage _ 0 _ A0a n0a c0a s0a (h0a.next (by exact belA)) (Nat.le_refl _) mm0a ).mono ?_); rintro e w6 ⟨Fay, A0ay, n0ay, c0ay, rfl, oay, fay, bw6⟩)) | (go_at_call 8; ((with_reducible refine (lawsEqImage _ 0 _ 0 _ A0ax n0ax c0ax s0a A0ay n0ay c0ay s0a (g0ax.next (by exact belA)) ((Image_sl0 oay).next (by exact belA)) (Nat.le_refl _) (Nat.le_refl _)).mono ?_); rintro e w7 ⟨rfl, bw7⟩)))
  have hx : Below w5.heap.size w5 w7 := by exact belA
  replace hb := below_then hb hx
  replace h0a := h0a.next hx
  replace g0ax := g0ax.next hx
  replace ka0 := below_cell hx ka0
  replace ja0 := below_cell hx ja0
  clear hx
  have zka : w.heap.size < w7.heap.size := World.block_lt_of_cell? w7 _ ka0
  have zja : w4.heap.size < w7.heap.size := World.block_lt_of_cell? w7 _ ja0
  clear bw7 bw6 oay fay hE
  go_wp2_with fail
  go_ret
  exact RetB.mk rfl hb

theorem fnImageBytesA (w : World) (csa : Array Value) (ea : Image) (hla : ImageR.rel w 0 w.heap.size csa.toList ea) :
    Calls Tryz.prog 3 #[.agg csa] w (RetB true w) := by
  obtain ⟨A0a, n0a, c0a, s0a, hca, hea, h0a⟩ := Image_rel hla
  obtain ⟨csa⟩ := csa
  simp only at hca
  subst hca hea
  exact fnImageBytes w A0a n0a c0a ea h0a 

end Go.Proofs.YtcpjcgefkpgfjaaGreat
