/- For every text and every place the program's ReadCode returns what the reference's returns: FnExactReadCode returns true, and its arguments read as they did. No condition beyond the row's own. -/
import Derived.Test.YtenpekohbedehaaRdN
import Derived.Test.YtenpekohbedehaaOwnOne
import Derived.Test.YtenpekohbedehaaMkIm
import Derived.Test.YtenpekohbedehaaKit1
import Derived.Deep.RegionHeld3
set_option linter.unusedVariables false
set_option linter.unusedSimpArgs false
set_option maxRecDepth 100000
namespace Go.Proofs.Ytenpekohbedehaa
open Go.ChangeShapes Go.WideShapes Go.ChangeAt Go.RowKit
open Go.ChangeMaps (open_string)

theorem ownsl_nodup {α : Type} {R : Rp α} {w : World} {e : TypeId} {F : List Nat} {v : Value} {l : List α} (h : OwnSl R w e F v l) : F.Nodup := by
  obtain ⟨_, _, _, _, rfl, hn⟩ := h; exact hn
set_option maxHeartbeats 8000000 in
theorem fnReadCode (w : World) (va : ByteArray) (vb : Int) (za : va.size ≤ maxLen) (ib : I64 vb) :
    Calls Try.prog 3 #[.string va, .int .i64 vb] w (RetB true w) := by
  have bla : va.size ≤ 9223372036854775807 := by unfold maxLen at za; omega
  by_cases hla : va.size ≤ 1048576
  rotate_left
  · have hd : decide ((1048576 : Int) < (va.size : Int)) = true := by simp; omega
    go_enter Try.func3, Try.ntmps3
    go_wp2_with fail
    go_ret
    exact RetB.mk rfl (by exact belA)
  have hda : decide ((1048576 : Int) < (va.size : Int)) = false := by simp; omega
  go_enter Try.func3, Try.ntmps3
  have hb : Below w.heap.size w w := Below.refl _ _
  obtain ⟨⟨x0z, x1z, s2z, s3z, s4z⟩, hz0⟩ : ∃ z, (rcR va vb).1 = z := ⟨_, rfl⟩
  obtain ⟨bz, hbz0⟩ : ∃ b, (rcR va vb).2.2 = b := ⟨_, rfl⟩
  have HZ := Lib.hid hz0
  have HBZ := Lib.hid hbz0
  obtain ⟨iz, hiz0⟩ : ∃ b, (rcR va vb).2.1 = b := ⟨_, rfl⟩
  have HIZ := Lib.hid hiz0
  clear hiz0
  have hRes := Lib.hid (show s2z.length + s3z.length + s4z.length ≤ 1099511627776 from by have := rcR_sz va vb; rw [hz0] at this; exact Nat.le_trans this (by omega))
  have hEq := eqB_true (rfl : (x0z, x1z, s2z, s3z, s4z) = (x0z, x1z, s2z, s3z, s4z))
  clear hz0 hbz0
  go_wp2_with fail
  refine (specReadCodeC _ va vb za ib x0z x1z s2z s3z s4z HZ.out iz HIZ.out bz HBZ.out).mono ?_
  rintro e w1 ⟨A2zw, n2zw, c2zw, A3zw, n3zw, c3zw, A4zw, n4zw, c4zw, rfl, h2zw, h3zw, h4zw, b⟩
  have hx : Below w.heap.size w w1 := by exact belA
  have zw1 := hx.size
  replace hb := below_then hb hx
  clear hx
  clear b
  go_wp2_with fail
  refine (implReadCodeC _ va vb za ib x0z x1z s2z s3z s4z HZ.out iz HIZ.out bz HBZ.out).mono ?_
  rintro e w2 ⟨A2zg, n2zg, c2zg, A3zg, n3zg, c3zg, A4zg, n4zg, c4zg, F2zg, F3zg, F4zg, rfl, o2zg, o3zg, o4zg, ndzg, fzg, b⟩
  have hx : Below w1.heap.size w1 w2 := by exact belA
  have zw2 := hx.size
  replace hb := below_then hb hx
  replace h2zw := h2zw.below hx (by omega)
  replace h3zw := h3zw.below hx (by omega)
  replace h4zw := h4zw.below hx (by omega)
  obtain ⟨hcE, hfE⟩ := bcell b
  have cw0 : w2.cell? ⟨w1.heap.size, 0, none⟩ = some (.int .i64 x0z) := by simp [hcE, go_sem]
  have cw1 : w2.cell? ⟨w1.heap.size, 1, none⟩ = some (.int .i64 x1z) := by simp [hcE, go_sem]
  have cw2 : w2.cell? ⟨w1.heap.size, 2, none⟩ = some (.slice A2zw n2zw c2zw) := by simp [hcE, go_sem]
  have cw3 : w2.cell? ⟨w1.heap.size, 3, none⟩ = some (.slice A3zw n3zw c3zw) := by simp [hcE, go_sem]
  have cw4 : w2.cell? ⟨w1.heap.size, 4, none⟩ = some (.slice A4zw n4zw c4zw) := by simp [hcE, go_sem]
  clear hcE hfE
  have zcw : w1.heap.size < w2.heap.size := World.block_lt_of_cell? w2 _ cw0
  have ycw := zcw
  clear hx
  clear b
  replace fzg : ∀ k, k ∈ (F2zg ++ (F3zg ++ F4zg)) → w1.heap.size + 1 ≤ k := fun k hk => by have := fzg k hk; first | omega | (simp at this; omega)
  have f2zg : ∀ k, k ∈ F2zg → _ ≤ k := fun k hk => fzg k (List.mem_append_left _ hk)
  have L2zg := o2zg.lt
  have f3zg : ∀ k, k ∈ F3zg → _ ≤ k := fun k hk => fzg k (List.mem_append_right _ (List.mem_append_left _ hk))
  have L3zg := o3zg.lt
  have f4zg : ∀ k, k ∈ F4zg → _ ≤ k := fun k hk => fzg k (List.mem_append_right _ (List.mem_append_right _ hk))
  have L4zg := o4zg.lt
  have Lzg : ∀ k, k ∈ (F2zg ++ (F3zg ++ F4zg)) → k < w2.heap.size := fun k hk => by
    simp only [List.mem_append] at hk
    rcases hk with h | h | h
    · exact L2zg k h
    · exact L3zg k h
    · exact L4zg k h
  go_wp2_with fail
  refine (lawsEqCode _ 0 _ 0 _ x0z x1z A2zg n2zg c2zg s2z A3zg n3zg c3zg s3z A4zg n4zg c4zg s4z x0z x1z A2zw n2zw c2zw s2z A3zw n3zw c3zw s3z A4zw n4zw c4zw s4z (o2zg.sl.next (by exact belA)) (o3zg.sl.next (by exact belA)) (o4zg.sl.next (by exact belA)) ((h2zw.more (Nat.le_refl _) (by omega)).next (by exact belA)) ((h3zw.more (Nat.le_refl _) (by omega)).next (by exact belA)) ((h4zw.more (Nat.le_refl _) (by omega)).next (by exact belA)) (Nat.le_refl _) (Nat.le_refl _)).mono ?_
  rintro e w3 ⟨rfl, b⟩
  have hx : Below w2.heap.size w2 w3 := by exact belA
  have zw3 := hx.size
  replace hb := below_then hb hx
  replace h2zw := h2zw.below hx (by omega)
  replace h3zw := h3zw.below hx (by omega)
  replace h4zw := h4zw.below hx (by omega)
  replace o2zg := o2zg.below hx
  replace o3zg := o3zg.below hx
  replace o4zg := o4zg.below hx
  replace cw0 := below_cell hx cw0
  replace cw1 := below_cell hx cw1
  replace cw2 := below_cell hx cw2
  replace cw3 := below_cell hx cw3
  replace cw4 := below_cell hx cw4
  replace zcw : w1.heap.size < w3.heap.size := by omega
  obtain ⟨hcE, hfE⟩ := bcell b
  have cg0 : w3.cell? ⟨w2.heap.size, 0, none⟩ = some (.int .i64 x0z) := by simp [hcE, go_sem]
  have cg1 : w3.cell? ⟨w2.heap.size, 1, none⟩ = some (.int .i64 x1z) := by simp [hcE, go_sem]
  have cg2 : w3.cell? ⟨w2.heap.size, 2, none⟩ = some (.slice A2zg n2zg c2zg) := by simp [hcE, go_sem]
  have cg3 : w3.cell? ⟨w2.heap.size, 3, none⟩ = some (.slice A3zg n3zg c3zg) := by simp [hcE, go_sem]
  have cg4 : w3.cell? ⟨w2.heap.size, 4, none⟩ = some (.slice A4zg n4zg c4zg) := by simp [hcE, go_sem]
  clear hcE hfE
  have zcg : w2.heap.size < w3.heap.size := World.block_lt_of_cell? w3 _ cg0
  have ycg := zcg
  clear hx
  clear b
  have ct2 := cntInt_le s2z
  have ct3 := cntIns_le s3z
  have ct4 := cntRow_le s4z
  have ct : cntL cntInt s2z + cntL cntIns s3z + cntL cntRow s4z ≤ 17592186044416 := by have := hRes.out; omega
  clear ct2 ct3 ct4
  go_wp2_with fail
  refine (mkCodeTop _ x0z x1z A2zg n2zg c2zg s2z A3zg n3zg c3zg s3z A4zg n4zg c4zg s4z 1 F2zg F3zg F4zg o2zg o3zg o4zg ndzg (by omega) (by omega)).mono ?_
  rintro e w4 ⟨rm, rfl, qm, om2, om3, om4, hf⟩
  have zw4 := hf.size
  replace hb := below_fr hb hf (fun k hk => by have := fzg k hk; omega)
  replace h2zw := h2zw.fr hf (by omega) (fun k hk => by have := fzg k hk; have := Lzg k hk; first | exact Or.inr (by omega) | exact Or.inl (by omega))
  replace h3zw := h3zw.fr hf (by omega) (fun k hk => by have := fzg k hk; have := Lzg k hk; first | exact Or.inr (by omega) | exact Or.inl (by omega))
  replace h4zw := h4zw.fr hf (by omega) (fun k hk => by have := fzg k hk; have := Lzg k hk; first | exact Or.inr (by omega) | exact Or.inl (by omega))
  replace cw0 := cell_fr hf (fun hk => by have := fzg _ hk; have := Lzg _ hk; omega) cw0
  replace cw1 := cell_fr hf (fun hk => by have := fzg _ hk; have := Lzg _ hk; omega) cw1
  replace cw2 := cell_fr hf (fun hk => by have := fzg _ hk; have := Lzg _ hk; omega) cw2
  replace cw3 := cell_fr hf (fun hk => by have := fzg _ hk; have := Lzg _ hk; omega) cw3
  replace cw4 := cell_fr hf (fun hk => by have := fzg _ hk; have := Lzg _ hk; omega) cw4
  replace cg0 := cell_fr hf (fun hk => by have := fzg _ hk; have := Lzg _ hk; omega) cg0
  replace cg1 := cell_fr hf (fun hk => by have := fzg _ hk; have := Lzg _ hk; omega) cg1
  replace cg2 := cell_fr hf (fun hk => by have := fzg _ hk; have := Lzg _ hk; omega) cg2
  replace cg3 := cell_fr hf (fun hk => by have := fzg _ hk; have := Lzg _ hk; omega) cg3
  replace cg4 := cell_fr hf (fun hk => by have := fzg _ hk; have := Lzg _ hk; omega) cg4
  replace zcw : w1.heap.size < w4.heap.size := by omega
  replace zcg : w2.heap.size < w4.heap.size := by omega
  clear hf o2zg o3zg o4zg
  have o2zg := om2
  clear om2
  have o3zg := om3
  clear om3
  have o4zg := om4
  clear om4
  have pm : 0 ≤ rm := by omega
  have pm2 : rm ≤ 17592186044420 := by omega
  replace qm := Lib.hid qm
  go_wp2_with fail
  refine (hdCodeTop _ 0 _ x0z x1z A2zg n2zg c2zg s2z A3zg n3zg c3zg s3z A4zg n4zg c4zg s4z 1 o2zg.sl o3zg.sl o4zg.sl (Nat.le_refl _) (by omega) (by omega)).mono ?_
  rintro e w5 ⟨rh, rfl, qh, b⟩
  have hx : Below w4.heap.size w4 w5 := by exact belA
  have zw5 := hx.size
  replace hb := below_then hb hx
  replace h2zw := h2zw.below hx (by omega)
  replace h3zw := h3zw.below hx (by omega)
  replace h4zw := h4zw.below hx (by omega)
  replace o2zg := o2zg.below hx
  replace o3zg := o3zg.below hx
  replace o4zg := o4zg.below hx
  replace cw0 := below_cell hx cw0
  replace cw1 := below_cell hx cw1
  replace cw2 := below_cell hx cw2
  replace cw3 := below_cell hx cw3
  replace cw4 := below_cell hx cw4
  replace cg0 := below_cell hx cg0
  replace cg1 := below_cell hx cg1
  replace cg2 := below_cell hx cg2
  replace cg3 := below_cell hx cg3
  replace cg4 := below_cell hx cg4
  replace zcw : w1.heap.size < w5.heap.size := by omega
  replace zcg : w2.heap.size < w5.heap.size := by omega
  clear hx
  clear b
  obtain rfl : rm = rh := by have := qm.out; omega
  clear qh
  go_wp2_with fail
  refine (implReadCodeC _ va vb za ib x0z x1z s2z s3z s4z HZ.out iz HIZ.out bz HBZ.out).mono ?_
  rintro e w6 ⟨A2zh, n2zh, c2zh, A3zh, n3zh, c3zh, A4zh, n4zh, c4zh, F2zh, F3zh, F4zh, rfl, o2zh, o3zh, o4zh, ndzh, fzh, b⟩
  have hx : Below w5.heap.size w5 w6 := by exact belA
  have zw6 := hx.size
  replace hb := below_then hb hx
  replace h2zw := h2zw.below hx (by omega)
  replace h3zw := h3zw.below hx (by omega)
  replace h4zw := h4zw.below hx (by omega)
  replace o2zg := o2zg.below hx
  replace o3zg := o3zg.below hx
  replace o4zg := o4zg.below hx
  replace cw0 := below_cell hx cw0
  replace cw1 := below_cell hx cw1
  replace cw2 := below_cell hx cw2
  replace cw3 := below_cell hx cw3
  replace cw4 := below_cell hx cw4
  replace cg0 := below_cell hx cg0
  replace cg1 := below_cell hx cg1
  replace cg2 := below_cell hx cg2
  replace cg3 := below_cell hx cg3
  replace cg4 := below_cell hx cg4
  replace zcw : w1.heap.size < w6.heap.size := by omega
  replace zcg : w2.heap.size < w6.heap.size := by omega
  clear hx
  clear b
  go_wp2_with fail
  refine (lawsEqCode _ 0 _ 0 _ x0z x1z A2zh n2zh c2zh s2z A3zh n3zh c3zh s3z A4zh n4zh c4zh s4z x0z x1z A2zw n2zw c2zw s2z A3zw n3zw c3zw s3z A4zw n4zw c4zw s4z (o2zh.sl.next (by exact belA)) (o3zh.sl.next (by exact belA)) (o4zh.sl.next (by exact belA)) ((h2zw.more (Nat.le_refl _) (by omega)).next (by exact belA)) ((h3zw.more (Nat.le_refl _) (by omega)).next (by exact belA)) ((h4zw.more (Nat.le_refl _) (by omega)).next (by exact belA)) (Nat.le_refl _) (Nat.le_refl _)).mono ?_
  rintro e w7 ⟨rfl, b⟩
  have hx : Below w6.heap.size w6 w7 := by exact belA
  have zw7 := hx.size
  replace hb := below_then hb hx
  replace h2zw := h2zw.below hx (by omega)
  replace h3zw := h3zw.below hx (by omega)
  replace h4zw := h4zw.below hx (by omega)
  replace o2zg := o2zg.below hx
  replace o3zg := o3zg.below hx
  replace o4zg := o4zg.below hx
  replace o2zh := o2zh.below hx
  replace o3zh := o3zh.below hx
  replace o4zh := o4zh.below hx
  replace cw0 := below_cell hx cw0
  replace cw1 := below_cell hx cw1
  replace cw2 := below_cell hx cw2
  replace cw3 := below_cell hx cw3
  replace cw4 := below_cell hx cw4
  replace cg0 := below_cell hx cg0
  replace cg1 := below_cell hx cg1
  replace cg2 := below_cell hx cg2
  replace cg3 := below_cell hx cg3
  replace cg4 := below_cell hx cg4
  replace zcw : w1.heap.size < w7.heap.size := by omega
  replace zcg : w2.heap.size < w7.heap.size := by omega
  obtain ⟨hcE, hfE⟩ := bcell b
  have ch0 : w7.cell? ⟨w6.heap.size, 0, none⟩ = some (.int .i64 x0z) := by simp [hcE, go_sem]
  have ch1 : w7.cell? ⟨w6.heap.size, 1, none⟩ = some (.int .i64 x1z) := by simp [hcE, go_sem]
  have ch2 : w7.cell? ⟨w6.heap.size, 2, none⟩ = some (.slice A2zh n2zh c2zh) := by simp [hcE, go_sem]
  have ch3 : w7.cell? ⟨w6.heap.size, 3, none⟩ = some (.slice A3zh n3zh c3zh) := by simp [hcE, go_sem]
  have ch4 : w7.cell? ⟨w6.heap.size, 4, none⟩ = some (.slice A4zh n4zh c4zh) := by simp [hcE, go_sem]
  clear hcE hfE
  have zch : w6.heap.size < w7.heap.size := World.block_lt_of_cell? w7 _ ch0
  have ych := zch
  clear hx
  clear b
  clear o2zh o3zh o4zh ndzh fzh
  go_wp2_with fail
  refine (hdCodeTop _ 0 _ x0z x1z A2zg n2zg c2zg s2z A3zg n3zg c3zg s3z A4zg n4zg c4zg s4z 1 o2zg.sl o3zg.sl o4zg.sl (Nat.le_refl _) (by omega) (by omega)).mono ?_
  rintro e w8 ⟨rh, rfl, qh, b⟩
  have hx : Below w7.heap.size w7 w8 := by exact belA
  have zw8 := hx.size
  replace hb := below_then hb hx
  replace h2zw := h2zw.below hx (by omega)
  replace h3zw := h3zw.below hx (by omega)
  replace h4zw := h4zw.below hx (by omega)
  replace o2zg := o2zg.below hx
  replace o3zg := o3zg.below hx
  replace o4zg := o4zg.below hx
  replace cw0 := below_cell hx cw0
  replace cw1 := below_cell hx cw1
  replace cw2 := below_cell hx cw2
  replace cw3 := below_cell hx cw3
  replace cw4 := below_cell hx cw4
  replace cg0 := below_cell hx cg0
  replace cg1 := below_cell hx cg1
  replace cg2 := below_cell hx cg2
  replace cg3 := below_cell hx cg3
  replace cg4 := below_cell hx cg4
  replace ch0 := below_cell hx ch0
  replace ch1 := below_cell hx ch1
  replace ch2 := below_cell hx ch2
  replace ch3 := below_cell hx ch3
  replace ch4 := below_cell hx ch4
  replace zcw : w1.heap.size < w8.heap.size := by omega
  replace zcg : w2.heap.size < w8.heap.size := by omega
  replace zch : w6.heap.size < w8.heap.size := by omega
  clear hx
  clear b
  obtain rfl : rm = rh := by have := qm.out; omega
  clear qh
  go_wp2_with fail
  go_ret
  exact RetB.mk rfl hb

theorem fnReadCodeA (w : World) (va : ByteArray) (za : va.size ≤ maxLen) (vb : Int) (ib : I64 vb) :
    Calls Try.prog 3 #[.string va, .int .i64 vb] w (RetB true w) := by
  exact fnReadCode w va vb za ib

end Go.Proofs.Ytenpekohbedehaa
