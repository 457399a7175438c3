/- For every image, every list of inputs and all bounds the program's RunTo returns what the reference's returns: FnExactRunTo returns true, and its arguments read as they did. No condition beyond the row's own. -/
import Derived.Test.YtgdeclmciflmpaaGreatStepZt
import Derived.Test.YtgdeclmciflmpaaGreatOwnOne
import Derived.Test.YtgdeclmciflmpaaGreatMkIm
import Derived.Test.YtgdeclmciflmpaaGreatMkVx
import Derived.Test.YtgdeclmciflmpaaGreatKit1
import Derived.Deep.RegionHeld3
set_option linter.unusedVariables false
set_option linter.unusedSimpArgs false
set_option maxRecDepth 100000
namespace Go.Proofs.YtgdeclmciflmpaaGreat
open Go.ChangeShapes Go.WideShapes Go.ChangeAt Go.RowKit
open Go.ChangeMaps (open_string)

theorem ownsl_nodup {α : Type} {R : Rp α} {w : World} {e : TypeId} {F : List Nat} {v : Value} {l : List α} (h : OwnSl R w e F v l) : F.Nodup := by
  obtain ⟨_, _, _, _, rfl, hn⟩ := h; exact hn
set_option maxHeartbeats 8000000 in
theorem fnRunTo (w : World) (A0a : Option Addr) (n0a c0a : Nat) (s0a : List Code) (Au : Option Addr) (nu cu : Nat) (lu : List Int) (vc : Int) (vd : Int) (h0a : Sl CodeR w 0 w.heap.size A0a n0a c0a s0a)  (hu : Sl intR w 0 w.heap.size Au nu cu lu) (ic : I64 vc) (id : I64 vd) :
    Calls Tryz.prog 4 #[.agg #[.slice A0a n0a c0a], .slice Au nu cu, .int .i64 vc, .int .i64 vd] w (RetB true w) := by
  have blu := hu.lenLe
  by_cases hlu : nu ≤ 1048576
  rotate_left
  · have hd : decide ((1048576 : Int) < (nu : Int)) = true := by simp; omega
    go_enter Tryz.func4, Tryz.ntmps4
    go_wp2_with fail
    go_ret
    exact RetB.mk rfl (by exact belA)
  have hdu : decide ((1048576 : Int) < (nu : Int)) = false := by simp; omega
  have e1u := Lib.hid hu.lenEq
  go_enter Tryz.func4, Tryz.ntmps4
  go_wp2_with fail
  refine (lawsSzImage _ 0 _ A0a n0a c0a s0a (h0a.up (by omega) (by exact belA)) (Nat.le_refl _) 1048576 (by omega) (by omega)).mono ?_
  rintro e w1 ⟨ra, rfl, hra, b⟩
  have hb : Below w.heap.size w w1 := by exact belA
  have hz := hb.size
  replace h0a := h0a.below hb (Nat.le_refl _)
  replace hu := hu.below hb (Nat.le_refl _)
  obtain ⟨hcE, hfE⟩ := bcell b
  have ka0 : w1.cell? ⟨w.heap.size, 0, none⟩ = some (.slice A0a n0a c0a) := by simp [hcE, go_sem]
  clear hcE hfE
  have zka : w.heap.size < w1.heap.size := World.block_lt_of_cell? w1 _ ka0
  have yka := zka
  clear b
  rcases hra with rfl | ⟨qa, ta⟩
  · go_wp2_with fail
    go_ret
    exact RetB.mk rfl hb
  have ma : mszLCode s0a ≤ 1048576 := by omega
  have ua : ra ≤ 1048576 := by omega
  clear ta
  have mm0a : mszLCode s0a ≤ 1048576 := by omega
  obtain ⟨⟨s0z, s1z, x2z, x3z, x4z, x5z, s6z⟩, hz0⟩ : ∃ z, runToR s0a lu vc vd = z := ⟨_, rfl⟩
  obtain ⟨bz, hbz0⟩ : ∃ b, (askB s0a lu vc && inB vd 0 60000) = b := ⟨_, rfl⟩
  have HZ := Lib.hid hz0
  have HBZ := Lib.hid hbz0
  have hRes := Lib.hid (show mszLFrame s0z + s1z.length + s6z.length ≤ 1099511627776 from by have := runToR_sz s0a lu vc vd; rw [hz0] at this; exact Nat.le_trans this (by omega))
  have hEq := eqB_true (rfl : (s0z, s1z, x2z, x3z, x4z, x5z, s6z) = (s0z, s1z, x2z, x3z, x4z, x5z, s6z))
  clear hz0 hbz0
  go_wp2_with fail
  refine (lawsToImage _ 0 _ A0a n0a c0a s0a (h0a.up (by omega) (by exact belA)) (Nat.le_refl _) mm0a ).mono ?_
  rintro e w2 ⟨Faq, A0aq, n0aq, c0aq, rfl, oaq, faq, b⟩
  have hx : Below w1.heap.size w1 w2 := by exact belA
  have zw2 := hx.size
  replace hb := below_then hb hx
  replace h0a := h0a.below hx (by omega)
  replace hu := hu.below hx (by omega)
  replace ka0 := below_cell hx ka0
  replace zka : w.heap.size < w2.heap.size := by omega
  clear hx
  clear b
  go_wp2_with fail
  refine (lawsToIntS _ 0 _ nu cu Au lu (hu.up (by omega) (by exact belA)) (Nat.le_refl _) hlu).mono ?_
  rintro e w3 ⟨Fuq, Auq, nuq, cuq, rfl, ouq, fuq, b⟩
  have hx : Below w2.heap.size w2 w3 := by exact belA
  have zw3 := hx.size
  replace hb := below_then hb hx
  replace h0a := h0a.below hx (by omega)
  replace hu := hu.below hx (by omega)
  replace ka0 := below_cell hx ka0
  replace zka : w.heap.size < w3.heap.size := by omega
  have hxq := Lib.hid hx
  clear hx
  clear b
  go_wp2_with fail
  refine (specRunToC w3 A0aq n0aq c0aq s0a Auq nuq cuq lu vc vd ((Image_sl0 oaq).next hxq.out) mm0a ((ouq.sl).next (by exact belA)) ic id s0z s1z x2z x3z x4z x5z s6z HZ.out bz HBZ.out).mono ?_
  rintro e w4 ⟨A0zw, n0zw, c0zw, A1zw, n1zw, c1zw, A6zw, n6zw, c6zw, rfl, h0zw, h1zw, h6zw, b⟩
  have hx : Below w3.heap.size w3 w4 := by exact belA
  have zw4 := hx.size
  replace hb := below_then hb hx
  replace h0a := h0a.below hx (by omega)
  replace hu := hu.below hx (by omega)
  replace ouq := ouq.below hx
  replace ka0 := below_cell hx ka0
  replace zka : w.heap.size < w4.heap.size := by omega
  clear hx
  clear b
  clear oaq faq
  clear ouq fuq
  go_wp2_with fail
  refine (lawsToImage _ 0 _ A0a n0a c0a s0a (h0a.up (by omega) (by exact belA)) (Nat.le_refl _) mm0a ).mono ?_
  rintro e w5 ⟨Fax, A0ax, n0ax, c0ax, rfl, oax, fax, b⟩
  have hx : Below w4.heap.size w4 w5 := by exact belA
  have zw5 := hx.size
  replace hb := below_then hb hx
  replace h0a := h0a.below hx (by omega)
  replace hu := hu.below hx (by omega)
  replace h0zw := h0zw.below hx (by omega)
  replace h1zw := h1zw.below hx (by omega)
  replace h6zw := h6zw.below hx (by omega)
  replace ka0 := below_cell hx ka0
  replace zka : w.heap.size < w5.heap.size := by omega
  obtain ⟨hcE, hfE⟩ := bcell b
  have cw0 : w5.cell? ⟨w4.heap.size, 0, none⟩ = some (.slice A0zw n0zw c0zw) := by simp [hcE, go_sem]
  have cw1 : w5.cell? ⟨w4.heap.size, 1, none⟩ = some (.slice A1zw n1zw c1zw) := by simp [hcE, go_sem]
  have cw2 : w5.cell? ⟨w4.heap.size, 2, none⟩ = some (.int .i64 x2z) := by simp [hcE, go_sem]
  have cw3 : w5.cell? ⟨w4.heap.size, 3, none⟩ = some (.int .i64 x3z) := by simp [hcE, go_sem]
  have cw4 : w5.cell? ⟨w4.heap.size, 4, none⟩ = some (.int .i64 x4z) := by simp [hcE, go_sem]
  have cw5 : w5.cell? ⟨w4.heap.size, 5, none⟩ = some (.int .i64 x5z) := by simp [hcE, go_sem]
  have cw6 : w5.cell? ⟨w4.heap.size, 6, none⟩ = some (.slice A6zw n6zw c6zw) := by simp [hcE, go_sem]
  clear hcE hfE
  have zcw : w4.heap.size < w5.heap.size := World.block_lt_of_cell? w5 _ cw0
  have ycw := zcw
  clear hx
  clear b
  replace fax : ∀ k, k ∈ Fax → w4.heap.size + 1 ≤ k := fun k hk => by have := fax k hk; first | omega | (simp at this; omega)
  have Lax : ∀ k, k ∈ Fax → k < w5.heap.size := ImageR.ownLt oax
  obtain ⟨F0ax, hF0ax⟩ : ∃ F, F = Fax := ⟨_, rfl⟩
  have o0ax : OwnSl CodeR _ 78 Fax (.slice A0ax n0ax c0ax) s0a := own_of1 oax
  rw [← hF0ax] at fax Lax o0ax
  clear oax hF0ax
  have ndax := ownsl_nodup o0ax
  have f0ax : ∀ k, k ∈ F0ax → _ ≤ k := fun k hk => fax k hk
  have L0ax : ∀ k, k ∈ F0ax → k < w5.heap.size := fun k hk => Lax k hk
  go_wp2_with fail
  refine (lawsToIntS _ 0 _ nu cu Au lu (hu.up (by omega) (by exact belA)) (Nat.le_refl _) hlu).mono ?_
  rintro e w6 ⟨Fux, Aux, nux, cux, rfl, oux, fux, b⟩
  have hx : Below w5.heap.size w5 w6 := by exact belA
  have zw6 := hx.size
  replace hb := below_then hb hx
  replace h0a := h0a.below hx (by omega)
  replace hu := hu.below hx (by omega)
  replace h0zw := h0zw.below hx (by omega)
  replace h1zw := h1zw.below hx (by omega)
  replace h6zw := h6zw.below hx (by omega)
  replace o0ax := o0ax.below hx
  replace ka0 := below_cell hx ka0
  replace cw0 := below_cell hx cw0
  replace cw1 := below_cell hx cw1
  replace cw2 := below_cell hx cw2
  replace cw3 := below_cell hx cw3
  replace cw4 := below_cell hx cw4
  replace cw5 := below_cell hx cw5
  replace cw6 := below_cell hx cw6
  replace zka : w.heap.size < w6.heap.size := by omega
  replace zcw : w4.heap.size < w6.heap.size := by omega
  obtain ⟨hcE, hfE⟩ := bcell b
  have ja0 : w6.cell? ⟨w5.heap.size, 0, none⟩ = some (.slice A0ax n0ax c0ax) := by simp [hcE, go_sem]
  clear hcE hfE
  have zja : w5.heap.size < w6.heap.size := World.block_lt_of_cell? w6 _ ja0
  have yja := zja
  clear hx
  clear b
  skip
  have Lux : ∀ k, k ∈ Fux → k < w6.heap.size := oux.lt
  replace fux : ∀ k, k ∈ Fux → w5.heap.size + 1 ≤ k := fun k hk => by have := fux k hk; first | omega | (simp at this; omega)
  go_wp2_with fail
  refine (implRunToC _ A0ax n0ax c0ax s0a Aux nux cux lu vc vd (o0ax.sl.next (by exact belA)) mm0a (oux.sl.next (by exact belA)) ic id s0z s1z x2z x3z x4z x5z s6z HZ.out bz HBZ.out).mono ?_
  rintro e w7 ⟨A0zg, n0zg, c0zg, A1zg, n1zg, c1zg, A6zg, n6zg, c6zg, F0zg, F1zg, F6zg, rfl, o0zg, o1zg, o6zg, ndzg, fzg, b⟩
  have hx : Below w6.heap.size w6 w7 := by exact belA
  have zw7 := hx.size
  replace hb := below_then hb hx
  replace h0a := h0a.below hx (by omega)
  replace hu := hu.below hx (by omega)
  replace h0zw := h0zw.below hx (by omega)
  replace h1zw := h1zw.below hx (by omega)
  replace h6zw := h6zw.below hx (by omega)
  replace o0ax := o0ax.below hx
  replace oux := oux.below hx
  replace ka0 := below_cell hx ka0
  replace cw0 := below_cell hx cw0
  replace cw1 := below_cell hx cw1
  replace cw2 := below_cell hx cw2
  replace cw3 := below_cell hx cw3
  replace cw4 := below_cell hx cw4
  replace cw5 := below_cell hx cw5
  replace cw6 := below_cell hx cw6
  replace ja0 := below_cell hx ja0
  replace zka : w.heap.size < w7.heap.size := by omega
  replace zcw : w4.heap.size < w7.heap.size := by omega
  replace zja : w5.heap.size < w7.heap.size := by omega
  clear hx
  clear b
  replace fzg : ∀ k, k ∈ (F0zg ++ (F1zg ++ F6zg)) → w6.heap.size ≤ k := fun k hk => by have := fzg k hk; first | omega | (simp at this; omega)
  have f0zg : ∀ k, k ∈ F0zg → _ ≤ k := fun k hk => fzg k (List.mem_append_left _ hk)
  have L0zg := o0zg.lt
  have f1zg : ∀ k, k ∈ F1zg → _ ≤ k := fun k hk => fzg k (List.mem_append_right _ (List.mem_append_left _ hk))
  have L1zg := o1zg.lt
  have f6zg : ∀ k, k ∈ F6zg → _ ≤ k := fun k hk => fzg k (List.mem_append_right _ (List.mem_append_right _ hk))
  have L6zg := o6zg.lt
  have Lzg : ∀ k, k ∈ (F0zg ++ (F1zg ++ F6zg)) → k < w7.heap.size := fun k hk => by
    simp only [List.mem_append] at hk
    rcases hk with h | h | h
    · exact L0zg k h
    · exact L1zg k h
    · exact L6zg k h
  go_wp2_with fail
  refine (lawsEqVm _ 0 _ 0 _ A0zg n0zg c0zg s0z A1zg n1zg c1zg s1z x2z x3z x4z x5z A6zg n6zg c6zg s6z A0zw n0zw c0zw s0z A1zw n1zw c1zw s1z x2z x3z x4z x5z A6zw n6zw c6zw s6z (o0zg.sl.next (by exact belA)) (o1zg.sl.next (by exact belA)) (o6zg.sl.next (by exact belA)) ((h0zw.more (Nat.le_refl _) (by omega)).next (by exact belA)) ((h1zw.more (Nat.le_refl _) (by omega)).next (by exact belA)) ((h6zw.more (Nat.le_refl _) (by omega)).next (by exact belA)) (Nat.le_refl _) (Nat.le_refl _)).mono ?_
  rintro e w8 ⟨rfl, b⟩
  have hx : Below w7.heap.size w7 w8 := by exact belA
  have zw8 := hx.size
  replace hb := below_then hb hx
  replace h0a := h0a.below hx (by omega)
  replace hu := hu.below hx (by omega)
  replace h0zw := h0zw.below hx (by omega)
  replace h1zw := h1zw.below hx (by omega)
  replace h6zw := h6zw.below hx (by omega)
  replace o0ax := o0ax.below hx
  replace oux := oux.below hx
  replace o0zg := o0zg.below hx
  replace o1zg := o1zg.below hx
  replace o6zg := o6zg.below hx
  replace ka0 := below_cell hx ka0
  replace cw0 := below_cell hx cw0
  replace cw1 := below_cell hx cw1
  replace cw2 := below_cell hx cw2
  replace cw3 := below_cell hx cw3
  replace cw4 := below_cell hx cw4
  replace cw5 := below_cell hx cw5
  replace cw6 := below_cell hx cw6
  replace ja0 := below_cell hx ja0
  replace zka : w.heap.size < w8.heap.size := by omega
  replace zcw : w4.heap.size < w8.heap.size := by omega
  replace zja : w5.heap.size < w8.heap.size := by omega
  obtain ⟨hcE, hfE⟩ := bcell b
  have cg0 : w8.cell? ⟨w7.heap.size, 0, none⟩ = some (.slice A0zg n0zg c0zg) := by simp [hcE, go_sem]
  have cg1 : w8.cell? ⟨w7.heap.size, 1, none⟩ = some (.slice A1zg n1zg c1zg) := by simp [hcE, go_sem]
  have cg2 : w8.cell? ⟨w7.heap.size, 2, none⟩ = some (.int .i64 x2z) := by simp [hcE, go_sem]
  have cg3 : w8.cell? ⟨w7.heap.size, 3, none⟩ = some (.int .i64 x3z) := by simp [hcE, go_sem]
  have cg4 : w8.cell? ⟨w7.heap.size, 4, none⟩ = some (.int .i64 x4z) := by simp [hcE, go_sem]
  have cg5 : w8.cell? ⟨w7.heap.size, 5, none⟩ = some (.int .i64 x5z) := by simp [hcE, go_sem]
  have cg6 : w8.cell? ⟨w7.heap.size, 6, none⟩ = some (.slice A6zg n6zg c6zg) := by simp [hcE, go_sem]
  clear hcE hfE
  have zcg : w7.heap.size < w8.heap.size := World.block_lt_of_cell? w8 _ cg0
  have ycg := zcg
  clear hx
  clear b
  have hE := eqB_true (rfl : s0a = s0a)
  go_wp2_with fail
  go_region_held3 (fun W => W.cell? ⟨w.heap.size, 0, none⟩ = some (.slice A0a n0a c0a) ∧ W.cell? ⟨w5.heap.size, 0, none⟩ = some (.slice A0ax n0ax c0ax))
    (first | exact ⟨ka0, ja0⟩ | exact ⟨below_cell bw9 ka0, below_cell bw9 ja0⟩ | exact ⟨below_cell bw10 (below_cell bw9 ka0), below_cell bw10 (below_cell bw9 ja0)⟩)
    (first | (go_at_call 7; ((with_reducible refine (lawsToImage _ 0 _ A0a n0a c0a s0a (h0a.up (by omega) (by exact belA)) (Nat.le_refl _) mm0a ).mono ?_); rintro e w9 ⟨Fay, A0ay, n0ay, c0ay, rfl, oay, fay, bw9⟩)) | (go_at_call 11; ((with_reducible refine (lawsEqImage _ 0 _ 0 _ A0ax n0ax c0ax s0a A0ay n0ay c0ay s0a (o0ax.sl.next (by exact belA)) ((Image_sl0 oay).next (by exact belA)) (Nat.le_refl _) (Nat.le_refl _)).mono ?_); rintro e w10 ⟨rfl, bw10⟩)))
  have hx : Below w8.heap.size w8 w10 := by exact belA
  have zw10 := hx.size
  replace hb := below_then hb hx
  replace h0a := h0a.below hx (by omega)
  replace hu := hu.below hx (by omega)
  replace h0zw := h0zw.below hx (by omega)
  replace h1zw := h1zw.below hx (by omega)
  replace h6zw := h6zw.below hx (by omega)
  replace o0ax := o0ax.below hx
  replace oux := oux.below hx
  replace o0zg := o0zg.below hx
  replace o1zg := o1zg.below hx
  replace o6zg := o6zg.below hx
  replace ka0 := below_cell hx ka0
  replace cw0 := below_cell hx cw0
  replace cw1 := below_cell hx cw1
  replace cw2 := below_cell hx cw2
  replace cw3 := below_cell hx cw3
  replace cw4 := below_cell hx cw4
  replace cw5 := below_cell hx cw5
  replace cw6 := below_cell hx cw6
  replace ja0 := below_cell hx ja0
  replace cg0 := below_cell hx cg0
  replace cg1 := below_cell hx cg1
  replace cg2 := below_cell hx cg2
  replace cg3 := below_cell hx cg3
  replace cg4 := below_cell hx cg4
  replace cg5 := below_cell hx cg5
  replace cg6 := below_cell hx cg6
  replace zka : w.heap.size < w10.heap.size := by omega
  replace zcw : w4.heap.size < w10.heap.size := by omega
  replace zja : w5.heap.size < w10.heap.size := by omega
  replace zcg : w7.heap.size < w10.heap.size := by omega
  clear hx
  clear bw10 bw9 oay fay hE
  go_wp2_with fail
  refine (lawsToIntS _ 0 _ nu cu Au lu (hu.up (by omega) (by exact belA)) (Nat.le_refl _) hlu).mono ?_
  rintro e w11 ⟨Fuy, Auy, nuy, cuy, rfl, ouy, fuy, b⟩
  have hx : Below w10.heap.size w10 w11 := by exact belA
  have zw11 := hx.size
  replace hb := below_then hb hx
  replace h0a := h0a.below hx (by omega)
  replace hu := hu.below hx (by omega)
  replace h0zw := h0zw.below hx (by omega)
  replace h1zw := h1zw.below hx (by omega)
  replace h6zw := h6zw.below hx (by omega)
  replace o0ax := o0ax.below hx
  replace oux := oux.below hx
  replace o0zg := o0zg.below hx
  replace o1zg := o1zg.below hx
  replace o6zg := o6zg.below hx
  replace ka0 := below_cell hx ka0
  replace cw0 := below_cell hx cw0
  replace cw1 := below_cell hx cw1
  replace cw2 := below_cell hx cw2
  replace cw3 := below_cell hx cw3
  replace cw4 := below_cell hx cw4
  replace cw5 := below_cell hx cw5
  replace cw6 := below_cell hx cw6
  replace ja0 := below_cell hx ja0
  replace cg0 := below_cell hx cg0
  replace cg1 := below_cell hx cg1
  replace cg2 := below_cell hx cg2
  replace cg3 := below_cell hx cg3
  replace cg4 := below_cell hx cg4
  replace cg5 := below_cell hx cg5
  replace cg6 := below_cell hx cg6
  replace zka : w.heap.size < w11.heap.size := by omega
  replace zcw : w4.heap.size < w11.heap.size := by omega
  replace zja : w5.heap.size < w11.heap.size := by omega
  replace zcg : w7.heap.size < w11.heap.size := by omega
  clear hx
  clear b
  have hE := eqB_true (rfl : lu = lu)
  go_wp2_with fail
  refine (lawsEqIntS _ 0 _ 0 _ nux nuy cux cuy Aux Auy _ _ oux.sl ouy.sl (Nat.le_refl _) (Nat.le_refl _)).mono ?_
  rintro e w12 ⟨rfl, b⟩
  have hx : Below w11.heap.size w11 w12 := by exact belA
  have zw12 := hx.size
  replace hb := below_then hb hx
  replace h0a := h0a.below hx (by omega)
  replace hu := hu.below hx (by omega)
  replace h0zw := h0zw.below hx (by omega)
  replace h1zw := h1zw.below hx (by omega)
  replace h6zw := h6zw.below hx (by omega)
  replace o0ax := o0ax.below hx
  replace oux := oux.below hx
  replace o0zg := o0zg.below hx
  replace o1zg := o1zg.below hx
  replace o6zg := o6zg.below hx
  replace ouy := ouy.below hx
  replace ka0 := below_cell hx ka0
  replace cw0 := below_cell hx cw0
  replace cw1 := below_cell hx cw1
  replace cw2 := below_cell hx cw2
  replace cw3 := below_cell hx cw3
  replace cw4 := below_cell hx cw4
  replace cw5 := below_cell hx cw5
  replace cw6 := below_cell hx cw6
  replace ja0 := below_cell hx ja0
  replace cg0 := below_cell hx cg0
  replace cg1 := below_cell hx cg1
  replace cg2 := below_cell hx cg2
  replace cg3 := below_cell hx cg3
  replace cg4 := below_cell hx cg4
  replace cg5 := below_cell hx cg5
  replace cg6 := below_cell hx cg6
  replace zka : w.heap.size < w12.heap.size := by omega
  replace zcw : w4.heap.size < w12.heap.size := by omega
  replace zja : w5.heap.size < w12.heap.size := by omega
  replace zcg : w7.heap.size < w12.heap.size := by omega
  clear hx
  clear b
  clear ouy fuy
  go_wp2_with fail
  have ct0 := cntCode_le s0a
  refine (mkImageTop _ A0ax n0ax c0ax s0a 1 F0ax o0ax ndax (by omega) (by omega)).mono ?_
  rintro e w13 ⟨rax, rfl, qr, om0, hf⟩
  clear om0
  have hr0ax : 0 ≤ rax := by omega
  have hr1ax : rax ≤ 1099511627776 := by omega
  clear qr
  clear ct0
  have zw13 := hf.size
  replace hb := below_fr hb hf (fun k hk => by have := fax k hk; omega)
  replace h0a := h0a.fr hf (by omega) (fun k hk => by have := fax k hk; have := Lax k hk; first | exact Or.inr (by omega) | exact Or.inl (by omega))
  replace hu := hu.fr hf (by omega) (fun k hk => by have := fax k hk; have := Lax k hk; first | exact Or.inr (by omega) | exact Or.inl (by omega))
  replace h0zw := h0zw.fr hf (by omega) (fun k hk => by have := fax k hk; have := Lax k hk; first | exact Or.inr (by omega) | exact Or.inl (by omega))
  replace h1zw := h1zw.fr hf (by omega) (fun k hk => by have := fax k hk; have := Lax k hk; first | exact Or.inr (by omega) | exact Or.inl (by omega))
  replace h6zw := h6zw.fr hf (by omega) (fun k hk => by have := fax k hk; have := Lax k hk; first | exact Or.inr (by omega) | exact Or.inl (by omega))
  replace oux := oux.fr hf (fun k hk hk' => by have := fux k hk; have := Lux k hk; have := fax k hk'; have := Lax k hk'; omega)
  replace o0zg := o0zg.fr hf (fun k hk hk' => by have := f0zg k hk; have := L0zg k hk; have := fax k hk'; have := Lax k hk'; omega)
  replace o1zg := o1zg.fr hf (fun k hk hk' => by have := f1zg k hk; have := L1zg k hk; have := fax k hk'; have := Lax k hk'; omega)
  replace o6zg := o6zg.fr hf (fun k hk hk' => by have := f6zg k hk; have := L6zg k hk; have := fax k hk'; have := Lax k hk'; omega)
  replace ka0 := cell_fr hf (fun hk => by have := fax _ hk; omega) ka0
  replace cw0 := cell_fr hf (fun hk => by have := fax _ hk; have := Lax _ hk; omega) cw0
  replace cw1 := cell_fr hf (fun hk => by have := fax _ hk; have := Lax _ hk; omega) cw1
  replace cw2 := cell_fr hf (fun hk => by have := fax _ hk; have := Lax _ hk; omega) cw2
  replace cw3 := cell_fr hf (fun hk => by have := fax _ hk; have := Lax _ hk; omega) cw3
  replace cw4 := cell_fr hf (fun hk => by have := fax _ hk; have := Lax _ hk; omega) cw4
  replace cw5 := cell_fr hf (fun hk => by have := fax _ hk; have := Lax _ hk; omega) cw5
  replace cw6 := cell_fr hf (fun hk => by have := fax _ hk; have := Lax _ hk; omega) cw6
  replace ja0 := cell_fr hf (fun hk => by have := fax _ hk; have := Lax _ hk; omega) ja0
  replace cg0 := cell_fr hf (fun hk => by have := fax _ hk; have := Lax _ hk; omega) cg0
  replace cg1 := cell_fr hf (fun hk => by have := fax _ hk; have := Lax _ hk; omega) cg1
  replace cg2 := cell_fr hf (fun hk => by have := fax _ hk; have := Lax _ hk; omega) cg2
  replace cg3 := cell_fr hf (fun hk => by have := fax _ hk; have := Lax _ hk; omega) cg3
  replace cg4 := cell_fr hf (fun hk => by have := fax _ hk; have := Lax _ hk; omega) cg4
  replace cg5 := cell_fr hf (fun hk => by have := fax _ hk; have := Lax _ hk; omega) cg5
  replace cg6 := cell_fr hf (fun hk => by have := fax _ hk; have := Lax _ hk; omega) cg6
  replace zka : w.heap.size < w13.heap.size := by omega
  replace zcw : w4.heap.size < w13.heap.size := by omega
  replace zja : w5.heap.size < w13.heap.size := by omega
  replace zcg : w7.heap.size < w13.heap.size := by omega
  clear hf
  go_wp2_with fail
  have ct := cntInt_le lu
  rw [e1u.out] at ct
  refine (mkInts _ nux cux Aux Fux lu rax oux (by omega) (by omega)).mono ?_
  rintro e w14 ⟨rux, rfl, qr, om, hf⟩
  clear om
  have hr0ux : 0 ≤ rux := by omega
  have hr1ux : rux ≤ 2199023255552 := by omega
  clear qr ct
  have zw14 := hf.size
  replace hb := below_fr hb hf (fun k hk => by have := fux k hk; omega)
  replace h0a := h0a.fr hf (by omega) (fun k hk => by have := fux k hk; have := Lux k hk; first | exact Or.inr (by omega) | exact Or.inl (by omega))
  replace hu := hu.fr hf (by omega) (fun k hk => by have := fux k hk; have := Lux k hk; first | exact Or.inr (by omega) | exact Or.inl (by omega))
  replace h0zw := h0zw.fr hf (by omega) (fun k hk => by have := fux k hk; have := Lux k hk; first | exact Or.inr (by omega) | exact Or.inl (by omega))
  replace h1zw := h1zw.fr hf (by omega) (fun k hk => by have := fux k hk; have := Lux k hk; first | exact Or.inr (by omega) | exact Or.inl (by omega))
  replace h6zw := h6zw.fr hf (by omega) (fun k hk => by have := fux k hk; have := Lux k hk; first | exact Or.inr (by omega) | exact Or.inl (by omega))
  replace o0zg := o0zg.fr hf (fun k hk hk' => by have := f0zg k hk; have := L0zg k hk; have := fux k hk'; have := Lux k hk'; omega)
  replace o1zg := o1zg.fr hf (fun k hk hk' => by have := f1zg k hk; have := L1zg k hk; have := fux k hk'; have := Lux k hk'; omega)
  replace o6zg := o6zg.fr hf (fun k hk hk' => by have := f6zg k hk; have := L6zg k hk; have := fux k hk'; have := Lux k hk'; omega)
  replace ka0 := cell_fr hf (fun hk => by have := fux _ hk; omega) ka0
  replace cw0 := cell_fr hf (fun hk => by have := fux _ hk; have := Lux _ hk; omega) cw0
  replace cw1 := cell_fr hf (fun hk => by have := fux _ hk; have := Lux _ hk; omega) cw1
  replace cw2 := cell_fr hf (fun hk => by have := fux _ hk; have := Lux _ hk; omega) cw2
  replace cw3 := cell_fr hf (fun hk => by have := fux _ hk; have := Lux _ hk; omega) cw3
  replace cw4 := cell_fr hf (fun hk => by have := fux _ hk; have := Lux _ hk; omega) cw4
  replace cw5 := cell_fr hf (fun hk => by have := fux _ hk; have := Lux _ hk; omega) cw5
  replace cw6 := cell_fr hf (fun hk => by have := fux _ hk; have := Lux _ hk; omega) cw6
  replace ja0 := cell_fr hf (fun hk => by have := fux _ hk; have := Lux _ hk; omega) ja0
  replace cg0 := cell_fr hf (fun hk => by have := fux _ hk; have := Lux _ hk; omega) cg0
  replace cg1 := cell_fr hf (fun hk => by have := fux _ hk; have := Lux _ hk; omega) cg1
  replace cg2 := cell_fr hf (fun hk => by have := fux _ hk; have := Lux _ hk; omega) cg2
  replace cg3 := cell_fr hf (fun hk => by have := fux _ hk; have := Lux _ hk; omega) cg3
  replace cg4 := cell_fr hf (fun hk => by have := fux _ hk; have := Lux _ hk; omega) cg4
  replace cg5 := cell_fr hf (fun hk => by have := fux _ hk; have := Lux _ hk; omega) cg5
  replace cg6 := cell_fr hf (fun hk => by have := fux _ hk; have := Lux _ hk; omega) cg6
  replace zka : w.heap.size < w14.heap.size := by omega
  replace zcw : w4.heap.size < w14.heap.size := by omega
  replace zja : w5.heap.size < w14.heap.size := by omega
  replace zcg : w7.heap.size < w14.heap.size := by omega
  clear hf
  clear ja0
  go_wp2_with fail
  refine (lawsEqVm _ 0 _ 0 _ A0zg n0zg c0zg s0z A1zg n1zg c1zg s1z x2z x3z x4z x5z A6zg n6zg c6zg s6z A0zw n0zw c0zw s0z A1zw n1zw c1zw s1z x2z x3z x4z x5z A6zw n6zw c6zw s6z (o0zg.sl.next (by exact belA)) (o1zg.sl.next (by exact belA)) (o6zg.sl.next (by exact belA)) ((h0zw.more (Nat.le_refl _) (by omega)).next (by exact belA)) ((h1zw.more (Nat.le_refl _) (by omega)).next (by exact belA)) ((h6zw.more (Nat.le_refl _) (by omega)).next (by exact belA)) (Nat.le_refl _) (Nat.le_refl _)).mono ?_
  rintro e w15 ⟨rfl, b⟩
  have hx : Below w14.heap.size w14 w15 := by exact belA
  have zw15 := hx.size
  replace hb := below_then hb hx
  replace h0a := h0a.below hx (by omega)
  replace hu := hu.below hx (by omega)
  replace h0zw := h0zw.below hx (by omega)
  replace h1zw := h1zw.below hx (by omega)
  replace h6zw := h6zw.below hx (by omega)
  replace o0zg := o0zg.below hx
  replace o1zg := o1zg.below hx
  replace o6zg := o6zg.below hx
  replace ka0 := below_cell hx ka0
  replace cw0 := below_cell hx cw0
  replace cw1 := below_cell hx cw1
  replace cw2 := below_cell hx cw2
  replace cw3 := below_cell hx cw3
  replace cw4 := below_cell hx cw4
  replace cw5 := below_cell hx cw5
  replace cw6 := below_cell hx cw6
  replace cg0 := below_cell hx cg0
  replace cg1 := below_cell hx cg1
  replace cg2 := below_cell hx cg2
  replace cg3 := below_cell hx cg3
  replace cg4 := below_cell hx cg4
  replace cg5 := below_cell hx cg5
  replace cg6 := below_cell hx cg6
  replace zka : w.heap.size < w15.heap.size := by omega
  replace zcw : w4.heap.size < w15.heap.size := by omega
  replace zja : w5.heap.size < w15.heap.size := by omega
  replace zcg : w7.heap.size < w15.heap.size := by omega
  clear hx
  clear b
  have ct0 := cntFrame_le s0z
  have ct1 := cntInt_le s1z
  have ct6 := cntNote_le s6z
  have ct : cntL cntFrame s0z + cntL cntInt s1z + cntL cntNote s6z ≤ 17592186044416 := by have := hRes.out; omega
  clear ct0 ct1 ct6
  go_wp2_with fail
  refine (mkVmTop _ A0zg n0zg c0zg s0z A1zg n1zg c1zg s1z x2z x3z x4z x5z A6zg n6zg c6zg s6z 1 F0zg F1zg F6zg o0zg o1zg o6zg ndzg (by omega) (by omega)).mono ?_
  rintro e w16 ⟨rm, rfl, qm, om0, om1, om6, hf⟩
  have zw16 := hf.size
  replace hb := below_fr hb hf (fun k hk => by have := fzg k hk; omega)
  replace h0a := h0a.fr hf (by omega) (fun k hk => by have := fzg k hk; have := Lzg k hk; first | exact Or.inr (by omega) | exact Or.inl (by omega))
  replace hu := hu.fr hf (by omega) (fun k hk => by have := fzg k hk; have := Lzg k hk; first | exact Or.inr (by omega) | exact Or.inl (by omega))
  replace h0zw := h0zw.fr hf (by omega) (fun k hk => by have := fzg k hk; have := Lzg k hk; first | exact Or.inr (by omega) | exact Or.inl (by omega))
  replace h1zw := h1zw.fr hf (by omega) (fun k hk => by have := fzg k hk; have := Lzg k hk; first | exact Or.inr (by omega) | exact Or.inl (by omega))
  replace h6zw := h6zw.fr hf (by omega) (fun k hk => by have := fzg k hk; have := Lzg k hk; first | exact Or.inr (by omega) | exact Or.inl (by omega))
  replace ka0 := cell_fr hf (fun hk => by have := fzg _ hk; omega) ka0
  replace cw0 := cell_fr hf (fun hk => by have := fzg _ hk; have := Lzg _ hk; omega) cw0
  replace cw1 := cell_fr hf (fun hk => by have := fzg _ hk; have := Lzg _ hk; omega) cw1
  replace cw2 := cell_fr hf (fun hk => by have := fzg _ hk; have := Lzg _ hk; omega) cw2
  replace cw3 := cell_fr hf (fun hk => by have := fzg _ hk; have := Lzg _ hk; omega) cw3
  replace cw4 := cell_fr hf (fun hk => by have := fzg _ hk; have := Lzg _ hk; omega) cw4
  replace cw5 := cell_fr hf (fun hk => by have := fzg _ hk; have := Lzg _ hk; omega) cw5
  replace cw6 := cell_fr hf (fun hk => by have := fzg _ hk; have := Lzg _ hk; omega) cw6
  replace cg0 := cell_fr hf (fun hk => by have := fzg _ hk; have := Lzg _ hk; omega) cg0
  replace cg1 := cell_fr hf (fun hk => by have := fzg _ hk; have := Lzg _ hk; omega) cg1
  replace cg2 := cell_fr hf (fun hk => by have := fzg _ hk; have := Lzg _ hk; omega) cg2
  replace cg3 := cell_fr hf (fun hk => by have := fzg _ hk; have := Lzg _ hk; omega) cg3
  replace cg4 := cell_fr hf (fun hk => by have := fzg _ hk; have := Lzg _ hk; omega) cg4
  replace cg5 := cell_fr hf (fun hk => by have := fzg _ hk; have := Lzg _ hk; omega) cg5
  replace cg6 := cell_fr hf (fun hk => by have := fzg _ hk; have := Lzg _ hk; omega) cg6
  replace zka : w.heap.size < w16.heap.size := by omega
  replace zcw : w4.heap.size < w16.heap.size := by omega
  replace zja : w5.heap.size < w16.heap.size := by omega
  replace zcg : w7.heap.size < w16.heap.size := by omega
  clear hf o0zg o1zg o6zg
  have o0zg := om0
  clear om0
  have o1zg := om1
  clear om1
  have o6zg := om6
  clear om6
  have pm : 0 ≤ rm := by omega
  have pm2 : rm ≤ 17592186044420 := by omega
  replace qm := Lib.hid qm
  go_wp2_with fail
  refine (hdVmTop _ 0 _ A0zg n0zg c0zg s0z A1zg n1zg c1zg s1z x2z x3z x4z x5z A6zg n6zg c6zg s6z 1 o0zg.sl o1zg.sl o6zg.sl (Nat.le_refl _) (by omega) (by omega)).mono ?_
  rintro e w17 ⟨rh, rfl, qh, b⟩
  have hx : Below w16.heap.size w16 w17 := by exact belA
  have zw17 := hx.size
  replace hb := below_then hb hx
  replace h0a := h0a.below hx (by omega)
  replace hu := hu.below hx (by omega)
  replace h0zw := h0zw.below hx (by omega)
  replace h1zw := h1zw.below hx (by omega)
  replace h6zw := h6zw.below hx (by omega)
  replace o0zg := o0zg.below hx
  replace o1zg := o1zg.below hx
  replace o6zg := o6zg.below hx
  replace ka0 := below_cell hx ka0
  replace cw0 := below_cell hx cw0
  replace cw1 := below_cell hx cw1
  replace cw2 := below_cell hx cw2
  replace cw3 := below_cell hx cw3
  replace cw4 := below_cell hx cw4
  replace cw5 := below_cell hx cw5
  replace cw6 := below_cell hx cw6
  replace cg0 := below_cell hx cg0
  replace cg1 := below_cell hx cg1
  replace cg2 := below_cell hx cg2
  replace cg3 := below_cell hx cg3
  replace cg4 := below_cell hx cg4
  replace cg5 := below_cell hx cg5
  replace cg6 := below_cell hx cg6
  replace zka : w.heap.size < w17.heap.size := by omega
  replace zcw : w4.heap.size < w17.heap.size := by omega
  replace zja : w5.heap.size < w17.heap.size := by omega
  replace zcg : w7.heap.size < w17.heap.size := by omega
  clear hx
  clear b
  obtain rfl : rm = rh := by have := qm.out; omega
  clear qh
  go_wp2_with fail
  refine (lawsToImage _ 0 _ A0a n0a c0a s0a (h0a.up (by omega) (by exact belA)) (Nat.le_refl _) mm0a ).mono ?_
  rintro e w18 ⟨Faz, A0az, n0az, c0az, rfl, oaz, faz, b⟩
  have hx : Below w17.heap.size w17 w18 := by exact belA
  have zw18 := hx.size
  replace hb := below_then hb hx
  replace h0a := h0a.below hx (by omega)
  replace hu := hu.below hx (by omega)
  replace h0zw := h0zw.below hx (by omega)
  replace h1zw := h1zw.below hx (by omega)
  replace h6zw := h6zw.below hx (by omega)
  replace o0zg := o0zg.below hx
  replace o1zg := o1zg.below hx
  replace o6zg := o6zg.below hx
  replace ka0 := below_cell hx ka0
  replace cw0 := below_cell hx cw0
  replace cw1 := below_cell hx cw1
  replace cw2 := below_cell hx cw2
  replace cw3 := below_cell hx cw3
  replace cw4 := below_cell hx cw4
  replace cw5 := below_cell hx cw5
  replace cw6 := below_cell hx cw6
  replace cg0 := below_cell hx cg0
  replace cg1 := below_cell hx cg1
  replace cg2 := below_cell hx cg2
  replace cg3 := below_cell hx cg3
  replace cg4 := below_cell hx cg4
  replace cg5 := below_cell hx cg5
  replace cg6 := below_cell hx cg6
  replace zka : w.heap.size < w18.heap.size := by omega
  replace zcw : w4.heap.size < w18.heap.size := by omega
  replace zja : w5.heap.size < w18.heap.size := by omega
  replace zcg : w7.heap.size < w18.heap.size := by omega
  clear hx
  clear b
  go_wp2_with fail
  refine (lawsToIntS _ 0 _ nu cu Au lu (hu.up (by omega) (by exact belA)) (Nat.le_refl _) hlu).mono ?_
  rintro e w19 ⟨Fuz, Auz, nuz, cuz, rfl, ouz, fuz, b⟩
  have hx : Below w18.heap.size w18 w19 := by exact belA
  have zw19 := hx.size
  replace hb := below_then hb hx
  replace h0a := h0a.below hx (by omega)
  replace hu := hu.below hx (by omega)
  replace h0zw := h0zw.below hx (by omega)
  replace h1zw := h1zw.below hx (by omega)
  replace h6zw := h6zw.below hx (by omega)
  replace o0zg := o0zg.below hx
  replace o1zg := o1zg.below hx
  replace o6zg := o6zg.below hx
  replace ka0 := below_cell hx ka0
  replace cw0 := below_cell hx cw0
  replace cw1 := below_cell hx cw1
  replace cw2 := below_cell hx cw2
  replace cw3 := below_cell hx cw3
  replace cw4 := below_cell hx cw4
  replace cw5 := below_cell hx cw5
  replace cw6 := below_cell hx cw6
  replace cg0 := below_cell hx cg0
  replace cg1 := below_cell hx cg1
  replace cg2 := below_cell hx cg2
  replace cg3 := below_cell hx cg3
  replace cg4 := below_cell hx cg4
  replace cg5 := below_cell hx cg5
  replace cg6 := below_cell hx cg6
  replace zka : w.heap.size < w19.heap.size := by omega
  replace zcw : w4.heap.size < w19.heap.size := by omega
  replace zja : w5.heap.size < w19.heap.size := by omega
  replace zcg : w7.heap.size < w19.heap.size := by omega
  have hxz := Lib.hid hx
  clear hx
  clear b
  go_wp2_with fail
  refine (implRunToC w19 A0az n0az c0az s0a Auz nuz cuz lu vc vd ((Image_sl0 oaz).next hxz.out) mm0a ((ouz.sl).next (by exact belA)) ic id s0z s1z x2z x3z x4z x5z s6z HZ.out bz HBZ.out).mono ?_
  rintro e w20 ⟨A0zh, n0zh, c0zh, A1zh, n1zh, c1zh, A6zh, n6zh, c6zh, F0zh, F1zh, F6zh, rfl, o0zh, o1zh, o6zh, ndzh, fzh, b⟩
  have hx : Below w19.heap.size w19 w20 := by exact belA
  have zw20 := hx.size
  replace hb := below_then hb hx
  replace h0a := h0a.below hx (by omega)
  replace hu := hu.below hx (by omega)
  replace h0zw := h0zw.below hx (by omega)
  replace h1zw := h1zw.below hx (by omega)
  replace h6zw := h6zw.below hx (by omega)
  replace o0zg := o0zg.below hx
  replace o1zg := o1zg.below hx
  replace o6zg := o6zg.below hx
  replace ouz := ouz.below hx
  replace ka0 := below_cell hx ka0
  replace cw0 := below_cell hx cw0
  replace cw1 := below_cell hx cw1
  replace cw2 := below_cell hx cw2
  replace cw3 := below_cell hx cw3
  replace cw4 := below_cell hx cw4
  replace cw5 := below_cell hx cw5
  replace cw6 := below_cell hx cw6
  replace cg0 := below_cell hx cg0
  replace cg1 := below_cell hx cg1
  replace cg2 := below_cell hx cg2
  replace cg3 := below_cell hx cg3
  replace cg4 := below_cell hx cg4
  replace cg5 := below_cell hx cg5
  replace cg6 := below_cell hx cg6
  replace zka : w.heap.size < w20.heap.size := by omega
  replace zcw : w4.heap.size < w20.heap.size := by omega
  replace zja : w5.heap.size < w20.heap.size := by omega
  replace zcg : w7.heap.size < w20.heap.size := by omega
  clear hx
  clear b
  clear oaz faz
  clear ouz fuz
  go_wp2_with fail
  refine (lawsEqVm _ 0 _ 0 _ A0zh n0zh c0zh s0z A1zh n1zh c1zh s1z x2z x3z x4z x5z A6zh n6zh c6zh s6z A0zw n0zw c0zw s0z A1zw n1zw c1zw s1z x2z x3z x4z x5z A6zw n6zw c6zw s6z (o0zh.sl.next (by exact belA)) (o1zh.sl.next (by exact belA)) (o6zh.sl.next (by exact belA)) ((h0zw.more (Nat.le_refl _) (by omega)).next (by exact belA)) ((h1zw.more (Nat.le_refl _) (by omega)).next (by exact belA)) ((h6zw.more (Nat.le_refl _) (by omega)).next (by exact belA)) (Nat.le_refl _) (Nat.le_refl _)).mono ?_
  rintro e w21 ⟨rfl, b⟩
  have hx : Below w20.heap.size w20 w21 := by exact belA
  have zw21 := hx.size
  replace hb := below_then hb hx
  replace h0a := h0a.below hx (by omega)
  replace hu := hu.below hx (by omega)
  replace h0zw := h0zw.below hx (by omega)
  replace h1zw := h1zw.below hx (by omega)
  replace h6zw := h6zw.below hx (by omega)
  replace o0zg := o0zg.below hx
  replace o1zg := o1zg.below hx
  replace o6zg := o6zg.below hx
  replace o0zh := o0zh.below hx
  replace o1zh := o1zh.below hx
  replace o6zh := o6zh.below hx
  replace ka0 := below_cell hx ka0
  replace cw0 := below_cell hx cw0
  replace cw1 := below_cell hx cw1
  replace cw2 := below_cell hx cw2
  replace cw3 := below_cell hx cw3
  replace cw4 := below_cell hx cw4
  replace cw5 := below_cell hx cw5
  replace cw6 := below_cell hx cw6
  replace cg0 := below_cell hx cg0
  replace cg1 := below_cell hx cg1
  replace cg2 := below_cell hx cg2
  replace cg3 := below_cell hx cg3
  replace cg4 := below_cell hx cg4
  replace cg5 := below_cell hx cg5
  replace cg6 := below_cell hx cg6
  replace zka : w.heap.size < w21.heap.size := by omega
  replace zcw : w4.heap.size < w21.heap.size := by omega
  replace zja : w5.heap.size < w21.heap.size := by omega
  replace zcg : w7.heap.size < w21.heap.size := by omega
  obtain ⟨hcE, hfE⟩ := bcell b
  have ch0 : w21.cell? ⟨w20.heap.size, 0, none⟩ = some (.slice A0zh n0zh c0zh) := by simp [hcE, go_sem]
  have ch1 : w21.cell? ⟨w20.heap.size, 1, none⟩ = some (.slice A1zh n1zh c1zh) := by simp [hcE, go_sem]
  have ch2 : w21.cell? ⟨w20.heap.size, 2, none⟩ = some (.int .i64 x2z) := by simp [hcE, go_sem]
  have ch3 : w21.cell? ⟨w20.heap.size, 3, none⟩ = some (.int .i64 x3z) := by simp [hcE, go_sem]
  have ch4 : w21.cell? ⟨w20.heap.size, 4, none⟩ = some (.int .i64 x4z) := by simp [hcE, go_sem]
  have ch5 : w21.cell? ⟨w20.heap.size, 5, none⟩ = some (.int .i64 x5z) := by simp [hcE, go_sem]
  have ch6 : w21.cell? ⟨w20.heap.size, 6, none⟩ = some (.slice A6zh n6zh c6zh) := by simp [hcE, go_sem]
  clear hcE hfE
  have zch : w20.heap.size < w21.heap.size := World.block_lt_of_cell? w21 _ ch0
  have ych := zch
  clear hx
  clear b
  clear o0zh o1zh o6zh ndzh fzh
  go_wp2_with fail
  refine (hdVmTop _ 0 _ A0zg n0zg c0zg s0z A1zg n1zg c1zg s1z x2z x3z x4z x5z A6zg n6zg c6zg s6z 1 o0zg.sl o1zg.sl o6zg.sl (Nat.le_refl _) (by omega) (by omega)).mono ?_
  rintro e w22 ⟨rh, rfl, qh, b⟩
  have hx : Below w21.heap.size w21 w22 := by exact belA
  have zw22 := hx.size
  replace hb := below_then hb hx
  replace h0a := h0a.below hx (by omega)
  replace hu := hu.below hx (by omega)
  replace h0zw := h0zw.below hx (by omega)
  replace h1zw := h1zw.below hx (by omega)
  replace h6zw := h6zw.below hx (by omega)
  replace o0zg := o0zg.below hx
  replace o1zg := o1zg.below hx
  replace o6zg := o6zg.below hx
  replace ka0 := below_cell hx ka0
  replace cw0 := below_cell hx cw0
  replace cw1 := below_cell hx cw1
  replace cw2 := below_cell hx cw2
  replace cw3 := below_cell hx cw3
  replace cw4 := below_cell hx cw4
  replace cw5 := below_cell hx cw5
  replace cw6 := below_cell hx cw6
  replace cg0 := below_cell hx cg0
  replace cg1 := below_cell hx cg1
  replace cg2 := below_cell hx cg2
  replace cg3 := below_cell hx cg3
  replace cg4 := below_cell hx cg4
  replace cg5 := below_cell hx cg5
  replace cg6 := below_cell hx cg6
  replace ch0 := below_cell hx ch0
  replace ch1 := below_cell hx ch1
  replace ch2 := below_cell hx ch2
  replace ch3 := below_cell hx ch3
  replace ch4 := below_cell hx ch4
  replace ch5 := below_cell hx ch5
  replace ch6 := below_cell hx ch6
  replace zka : w.heap.size < w22.heap.size := by omega
  replace zcw : w4.heap.size < w22.heap.size := by omega
  replace zja : w5.heap.size < w22.heap.size := by omega
  replace zcg : w7.heap.size < w22.heap.size := by omega
  replace zch : w20.heap.size < w22.heap.size := by omega
  clear hx
  clear b
  obtain rfl : rm = rh := by have := qm.out; omega
  clear qh
  go_wp2_with fail
  go_ret
  exact RetB.mk rfl hb

theorem fnRunToA (w : World) (csa : Array Value) (ea : Image) (hla : ImageR.rel w 0 w.heap.size csa.toList ea) (Au : Option Addr) (nu cu : Nat) (lu : List Int) (hu : Sl intR w 0 w.heap.size Au nu cu lu) (vc : Int) (ic : I64 vc) (vd : Int) (id : I64 vd) :
    Calls Tryz.prog 4 #[.agg csa, .slice Au nu cu, .int .i64 vc, .int .i64 vd] w (RetB true w) := by
  obtain ⟨A0a, n0a, c0a, s0a, hca, hea, h0a⟩ := Image_rel hla
  obtain ⟨csa⟩ := csa
  simp only at hca
  subst hca hea
  exact fnRunTo w A0a n0a c0a ea Au nu cu lu vc vd h0a  hu ic id

end Go.Proofs.YtgdeclmciflmpaaGreat
