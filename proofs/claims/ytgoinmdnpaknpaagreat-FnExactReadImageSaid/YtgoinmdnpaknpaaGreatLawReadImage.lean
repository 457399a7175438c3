/- For every text the program's ReadImage returns what the reference's returns: FnExactReadImage returns true, and its argument reads as it did. No condition beyond the row's own. -/
import Derived.Test.YtgoinmdnpaknpaaGreatRmAll
import Derived.Test.YtgoinmdnpaknpaaGreatOwnOne
import Derived.Test.YtgoinmdnpaknpaaGreatMkIm
import Derived.Test.YtgoinmdnpaknpaaGreatKit1
import Derived.Deep.RegionHeld3
set_option linter.unusedVariables false
set_option linter.unusedSimpArgs false
set_option maxRecDepth 100000
namespace Go.Proofs.YtgoinmdnpaknpaaGreat
open Go.ChangeShapes Go.WideShapes Go.ChangeAt Go.RowKit
open Go.ChangeMaps (open_string)

theorem ownsl_nodup {α : Type} {R : Rp α} {w : World} {e : TypeId} {F : List Nat} {v : Value} {l : List α} (h : OwnSl R w e F v l) : F.Nodup := by
  obtain ⟨_, _, _, _, rfl, hn⟩ := h; exact hn
set_option maxHeartbeats 8000000 in
theorem fnReadImage (w : World) (va : ByteArray) (za : va.size ≤ maxLen) :
    Calls Tryz.prog 3 #[.string va] w (RetB true w) := by
  have bla : va.size ≤ 9223372036854775807 := by unfold maxLen at za; omega
  by_cases hla : va.size ≤ 1048576
  rotate_left
  · have hd : decide ((1048576 : Int) < (va.size : Int)) = true := by simp; omega
    go_enter Tryz.func3, Tryz.ntmps3
    go_wp2_with fail
    go_ret
    exact RetB.mk rfl (by exact belA)
  have hda : decide ((1048576 : Int) < (va.size : Int)) = false := by simp; omega
  go_enter Tryz.func3, Tryz.ntmps3
  have hb : Below w.heap.size w w := Below.refl _ _
  obtain ⟨s0z, hz0⟩ : ∃ z, (riR va).1 = z := ⟨_, rfl⟩
  obtain ⟨bz, hbz0⟩ : ∃ b, (riR va).2.2 = b := ⟨_, rfl⟩
  have HZ := Lib.hid hz0
  have HBZ := Lib.hid hbz0
  obtain ⟨iz, hiz0⟩ : ∃ b, (riR va).2.1 = b := ⟨_, rfl⟩
  have HIZ := Lib.hid hiz0
  clear hiz0
  have hRes := Lib.hid (show mszLCode s0z ≤ 1099511627776 from by have := riR_sz va; rw [hz0] at this; exact Nat.le_trans this (by omega))
  have hEq := eqB_true (rfl : s0z = s0z)
  clear hz0 hbz0
  go_wp2_with fail
  refine (specReadImageC _ va za s0z HZ.out iz HIZ.out bz HBZ.out).mono ?_
  rintro e w1 ⟨A0zw, n0zw, c0zw, rfl, h0zw, b⟩
  have hx : Below w.heap.size w w1 := by exact belA
  have zw1 := hx.size
  replace hb := below_then hb hx
  clear hx
  clear b
  go_wp2_with fail
  refine (implReadImageC _ va za s0z HZ.out iz HIZ.out bz HBZ.out).mono ?_
  rintro e w2 ⟨A0zg, n0zg, c0zg, F0zg, rfl, o0zg, ndzg, fzg, b⟩
  have hx : Below w1.heap.size w1 w2 := by exact belA
  have zw2 := hx.size
  replace hb := below_then hb hx
  replace h0zw := h0zw.below hx (by omega)
  obtain ⟨hcE, hfE⟩ := bcell b
  have cw0 : w2.cell? ⟨w1.heap.size, 0, none⟩ = some (.slice A0zw n0zw c0zw) := by simp [hcE, go_sem]
  clear hcE hfE
  have zcw : w1.heap.size < w2.heap.size := World.block_lt_of_cell? w2 _ cw0
  have ycw := zcw
  clear hx
  clear b
  replace fzg : ∀ k, k ∈ F0zg → w1.heap.size + 1 ≤ k := fun k hk => by have := fzg k hk; first | omega | (simp at this; omega)
  have f0zg : ∀ k, k ∈ F0zg → _ ≤ k := fun k hk => fzg k hk
  have L0zg := o0zg.lt
  have Lzg := L0zg
  go_wp2_with fail
  refine (lawsEqImage _ 0 _ 0 _ A0zg n0zg c0zg s0z A0zw n0zw c0zw s0z (o0zg.sl.next (by exact belA)) ((h0zw.more (Nat.le_refl _) (by omega)).next (by exact belA)) (Nat.le_refl _) (Nat.le_refl _)).mono ?_
  rintro e w3 ⟨rfl, b⟩
  have hx : Below w2.heap.size w2 w3 := by exact belA
  have zw3 := hx.size
  replace hb := below_then hb hx
  replace h0zw := h0zw.below hx (by omega)
  replace o0zg := o0zg.below hx
  replace cw0 := below_cell hx cw0
  replace zcw : w1.heap.size < w3.heap.size := by omega
  obtain ⟨hcE, hfE⟩ := bcell b
  have cg0 : w3.cell? ⟨w2.heap.size, 0, none⟩ = some (.slice A0zg n0zg c0zg) := by simp [hcE, go_sem]
  clear hcE hfE
  have zcg : w2.heap.size < w3.heap.size := World.block_lt_of_cell? w3 _ cg0
  have ycg := zcg
  clear hx
  clear b
  have ct0 := cntCode_le s0z
  have ct : cntL cntCode s0z ≤ 17592186044416 := by have := hRes.out; omega
  clear ct0
  go_wp2_with fail
  refine (mkImageTop _ A0zg n0zg c0zg s0z 1 F0zg o0zg ndzg (by omega) (by omega)).mono ?_
  rintro e w4 ⟨rm, rfl, qm, om0, hf⟩
  have zw4 := hf.size
  replace hb := below_fr hb hf (fun k hk => by have := fzg k hk; omega)
  replace h0zw := h0zw.fr hf (by omega) (fun k hk => by have := fzg k hk; have := Lzg k hk; first | exact Or.inr (by omega) | exact Or.inl (by omega))
  replace cw0 := cell_fr hf (fun hk => by have := fzg _ hk; have := Lzg _ hk; omega) cw0
  replace cg0 := cell_fr hf (fun hk => by have := fzg _ hk; have := Lzg _ hk; omega) cg0
  replace zcw : w1.heap.size < w4.heap.size := by omega
  replace zcg : w2.heap.size < w4.heap.size := by omega
  clear hf o0zg
  have o0zg := om0
  clear om0
  have pm : 0 ≤ rm := by omega
  have pm2 : rm ≤ 17592186044420 := by omega
  replace qm := Lib.hid qm
  go_wp2_with fail
  refine (hdImageTop _ 0 _ A0zg n0zg c0zg s0z 1 o0zg.sl (Nat.le_refl _) (by omega) (by omega)).mono ?_
  rintro e w5 ⟨rh, rfl, qh, b⟩
  have hx : Below w4.heap.size w4 w5 := by exact belA
  have zw5 := hx.size
  replace hb := below_then hb hx
  replace h0zw := h0zw.below hx (by omega)
  replace o0zg := o0zg.below hx
  replace cw0 := below_cell hx cw0
  replace cg0 := below_cell hx cg0
  replace zcw : w1.heap.size < w5.heap.size := by omega
  replace zcg : w2.heap.size < w5.heap.size := by omega
  clear hx
  clear b
  obtain rfl : rm = rh := by have := qm.out; omega
  clear qh
  go_wp2_with fail
  refine (implReadImageC _ va za s0z HZ.out iz HIZ.out bz HBZ.out).mono ?_
  rintro e w6 ⟨A0zh, n0zh, c0zh, F0zh, rfl, o0zh, ndzh, fzh, b⟩
  have hx : Below w5.heap.size w5 w6 := by exact belA
  have zw6 := hx.size
  replace hb := below_then hb hx
  replace h0zw := h0zw.below hx (by omega)
  replace o0zg := o0zg.below hx
  replace cw0 := below_cell hx cw0
  replace cg0 := below_cell hx cg0
  replace zcw : w1.heap.size < w6.heap.size := by omega
  replace zcg : w2.heap.size < w6.heap.size := by omega
  clear hx
  clear b
  go_wp2_with fail
  refine (lawsEqImage _ 0 _ 0 _ A0zh n0zh c0zh s0z A0zw n0zw c0zw s0z (o0zh.sl.next (by exact belA)) ((h0zw.more (Nat.le_refl _) (by omega)).next (by exact belA)) (Nat.le_refl _) (Nat.le_refl _)).mono ?_
  rintro e w7 ⟨rfl, b⟩
  have hx : Below w6.heap.size w6 w7 := by exact belA
  have zw7 := hx.size
  replace hb := below_then hb hx
  replace h0zw := h0zw.below hx (by omega)
  replace o0zg := o0zg.below hx
  replace o0zh := o0zh.below hx
  replace cw0 := below_cell hx cw0
  replace cg0 := below_cell hx cg0
  replace zcw : w1.heap.size < w7.heap.size := by omega
  replace zcg : w2.heap.size < w7.heap.size := by omega
  obtain ⟨hcE, hfE⟩ := bcell b
  have ch0 : w7.cell? ⟨w6.heap.size, 0, none⟩ = some (.slice A0zh n0zh c0zh) := by simp [hcE, go_sem]
  clear hcE hfE
  have zch : w6.heap.size < w7.heap.size := World.block_lt_of_cell? w7 _ ch0
  have ych := zch
  clear hx
  clear b
  clear o0zh ndzh fzh
  go_wp2_with fail
  refine (hdImageTop _ 0 _ A0zg n0zg c0zg s0z 1 o0zg.sl (Nat.le_refl _) (by omega) (by omega)).mono ?_
  rintro e w8 ⟨rh, rfl, qh, b⟩
  have hx : Below w7.heap.size w7 w8 := by exact belA
  have zw8 := hx.size
  replace hb := below_then hb hx
  replace h0zw := h0zw.below hx (by omega)
  replace o0zg := o0zg.below hx
  replace cw0 := below_cell hx cw0
  replace cg0 := below_cell hx cg0
  replace ch0 := below_cell hx ch0
  replace zcw : w1.heap.size < w8.heap.size := by omega
  replace zcg : w2.heap.size < w8.heap.size := by omega
  replace zch : w6.heap.size < w8.heap.size := by omega
  clear hx
  clear b
  obtain rfl : rm = rh := by have := qm.out; omega
  clear qh
  go_wp2_with fail
  go_ret
  exact RetB.mk rfl hb

theorem fnReadImageA (w : World) (va : ByteArray) (za : va.size ≤ maxLen) :
    Calls Tryz.prog 3 #[.string va] w (RetB true w) := by
  exact fnReadImage w va za

end Go.Proofs.YtgoinmdnpaknpaaGreat
