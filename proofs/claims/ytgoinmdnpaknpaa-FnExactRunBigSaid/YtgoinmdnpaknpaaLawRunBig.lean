/- For every program, every list of inputs, every number of calls and every fuel the program's RunBig returns what the reference's returns: FnExactRunBig returns true, and its arguments read as they did. No condition beyond the row's own. -/
import Derived.Test.YtgoinmdnpaknpaaBigWz
import Derived.Test.YtgoinmdnpaknpaaOwnOne
import Derived.Test.YtgoinmdnpaknpaaOutc
import Derived.Test.YtgoinmdnpaknpaaMkPg
import Derived.Test.YtgoinmdnpaknpaaKit1
import Derived.Deep.RegionHeld3
set_option linter.unusedVariables false
set_option linter.unusedSimpArgs false
set_option maxRecDepth 100000
namespace Go.Proofs.Ytgoinmdnpaknpaa
open Go.ChangeShapes Go.WideShapes Go.ChangeAt Go.RowKit
open Go.ChangeMaps (open_string)

theorem ownsl_nodup {α : Type} {R : Rp α} {w : World} {e : TypeId} {F : List Nat} {v : Value} {l : List α} (h : OwnSl R w e F v l) : F.Nodup := by
  obtain ⟨_, _, _, _, rfl, hn⟩ := h; exact hn
set_option maxHeartbeats 8000000 in
theorem fnRunBig (w : World) (A0a : Option Addr) (n0a c0a : Nat) (s0a : List Func) (Au : Option Addr) (nu cu : Nat) (lu : List Int) (vc : Int) (vd : Int) (h0a : Sl FuncR w 0 w.heap.size A0a n0a c0a s0a)  (hu : Sl intR w 0 w.heap.size Au nu cu lu) (ic : I64 vc) (id : I64 vd) :
    Calls Try.prog 5 #[.agg #[.slice A0a n0a c0a], .slice Au nu cu, .int .i64 vc, .int .i64 vd] w (RetB true w) := by
  have blu := hu.lenLe
  by_cases hlu : nu ≤ 1048576
  rotate_left
  · have hd : decide ((1048576 : Int) < (nu : Int)) = true := by simp; omega
    go_enter Try.func5, Try.ntmps5
    go_wp2_with fail
    go_ret
    exact RetB.mk rfl (by exact belA)
  have hdu : decide ((1048576 : Int) < (nu : Int)) = false := by simp; omega
  have e1u := Lib.hid hu.lenEq
  go_enter Try.func5, Try.ntmps5
  go_wp2_with fail
  refine (lawsSzProg _ 0 _ A0a n0a c0a s0a (h0a.up (by omega) (by exact belA)) (Nat.le_refl _) 1048576 (by omega) (by omega)).mono ?_
  rintro e w1 ⟨ra, rfl, hra, b⟩
  have hb : Below w.heap.size w w1 := by exact belA
  have hz := hb.size
  replace h0a := h0a.below hb (Nat.le_refl _)
  replace hu := hu.below hb (Nat.le_refl _)
  obtain ⟨hcE, hfE⟩ := bcell b
  have ka0 : w1.cell? ⟨w.heap.size, 0, none⟩ = some (.slice A0a n0a c0a) := by simp [hcE, go_sem]
  clear hcE hfE
  have zka : w.heap.size < w1.heap.size := World.block_lt_of_cell? w1 _ ka0
  have yka := zka
  clear b
  rcases hra with rfl | ⟨qa, ta⟩
  · go_wp2_with fail
    go_ret
    exact RetB.mk rfl hb
  have ma : mszLFunc s0a ≤ 1048576 := by omega
  have ua : ra ≤ 1048576 := by omega
  clear ta
  have mm0a : mszLFunc s0a ≤ 1048576 := by omega
  obtain ⟨⟨x0z, x1z, s2z, x3z⟩, hz0⟩ : ∃ z, runBigR s0a lu vc vd = z := ⟨_, rfl⟩
  obtain ⟨bz, hbz0⟩ : ∃ b, (askP s0a lu vc && inB vd 0 600) = b := ⟨_, rfl⟩
  have HZ := Lib.hid hz0
  have HBZ := Lib.hid hbz0
  have hRes := Lib.hid (show s2z.length ≤ 1099511627776 from by have := runBigR_sz s0a lu vc vd; rw [hz0] at this; exact Nat.le_trans this (by omega))
  have hEq := eqB_true (rfl : (x0z, x1z, s2z, x3z) = (x0z, x1z, s2z, x3z))
  clear hz0 hbz0
  go_wp2_with fail
  refine (lawsToProg _ 0 _ A0a n0a c0a s0a (h0a.up (by omega) (by exact belA)) (Nat.le_refl _) mm0a ).mono ?_
  rintro e w2 ⟨Faq, A0aq, n0aq, c0aq, rfl, oaq, faq, b⟩
  have hx : Below w1.heap.size w1 w2 := by exact belA
  have zw2 := hx.size
  replace hb := below_then hb hx
  replace h0a := h0a.below hx (by omega)
  replace hu := hu.below hx (by omega)
  replace ka0 := below_cell hx ka0
  replace zka : w.heap.size < w2.heap.size := by omega
  clear hx
  clear b
  go_wp2_with fail
  refine (lawsToIntS _ 0 _ nu cu Au lu (hu.up (by omega) (by exact belA)) (Nat.le_refl _) hlu).mono ?_
  rintro e w3 ⟨Fuq, Auq, nuq, cuq, rfl, ouq, fuq, b⟩
  have hx : Below w2.heap.size w2 w3 := by exact belA
  have zw3 := hx.size
  replace hb := below_then hb hx
  replace h0a := h0a.below hx (by omega)
  replace hu := hu.below hx (by omega)
  replace ka0 := below_cell hx ka0
  replace zka : w.heap.size < w3.heap.size := by omega
  have hxq := Lib.hid hx
  clear hx
  clear b
  go_wp2_with fail
  refine (specRunBigC w3 A0aq n0aq c0aq s0a Auq nuq cuq lu vc vd ((Prog_sl0 oaq).next hxq.out) mm0a ((ouq.sl).next (by exact belA)) ic id x0z x1z s2z x3z HZ.out bz HBZ.out).mono ?_
  rintro e w4 ⟨A2zw, n2zw, c2zw, rfl, h2zw, b⟩
  have hx : Below w3.heap.size w3 w4 := by exact belA
  have zw4 := hx.size
  replace hb := below_then hb hx
  replace h0a := h0a.below hx (by omega)
  replace hu := hu.below hx (by omega)
  replace ouq := ouq.below hx
  replace ka0 := below_cell hx ka0
  replace zka : w.heap.size < w4.heap.size := by omega
  clear hx
  clear b
  clear oaq faq
  clear ouq fuq
  go_wp2_with fail
  refine (lawsToProg _ 0 _ A0a n0a c0a s0a (h0a.up (by omega) (by exact belA)) (Nat.le_refl _) mm0a ).mono ?_
  rintro e w5 ⟨Fax, A0ax, n0ax, c0ax, rfl, oax, fax, b⟩
  have hx : Below w4.heap.size w4 w5 := by exact belA
  have zw5 := hx.size
  replace hb := below_then hb hx
  replace h0a := h0a.below hx (by omega)
  replace hu := hu.below hx (by omega)
  replace h2zw := h2zw.below hx (by omega)
  replace ka0 := below_cell hx ka0
  replace zka : w.heap.size < w5.heap.size := by omega
  obtain ⟨hcE, hfE⟩ := bcell b
  have cw0 : w5.cell? ⟨w4.heap.size, 0, none⟩ = some (.int .i64 x0z) := by simp [hcE, go_sem]
  have cw1 : w5.cell? ⟨w4.heap.size, 1, none⟩ = some (.int .i64 x1z) := by simp [hcE, go_sem]
  have cw2 : w5.cell? ⟨w4.heap.size, 2, none⟩ = some (.slice A2zw n2zw c2zw) := by simp [hcE, go_sem]
  have cw3 : w5.cell? ⟨w4.heap.size, 3, none⟩ = some (.int .i64 x3z) := by simp [hcE, go_sem]
  clear hcE hfE
  have zcw : w4.heap.size < w5.heap.size := World.block_lt_of_cell? w5 _ cw0
  have ycw := zcw
  clear hx
  clear b
  replace fax : ∀ k, k ∈ Fax → w4.heap.size + 1 ≤ k := fun k hk => by have := fax k hk; first | omega | (simp at this; omega)
  have Lax : ∀ k, k ∈ Fax → k < w5.heap.size := ProgR.ownLt oax
  obtain ⟨F0ax, hF0ax⟩ : ∃ F, F = Fax := ⟨_, rfl⟩
  have o0ax : OwnSl FuncR _ 97 Fax (.slice A0ax n0ax c0ax) s0a := own_of1 oax
  rw [← hF0ax] at fax Lax o0ax
  clear oax hF0ax
  have ndax := ownsl_nodup o0ax
  have f0ax : ∀ k, k ∈ F0ax → _ ≤ k := fun k hk => fax k hk
  have L0ax : ∀ k, k ∈ F0ax → k < w5.heap.size := fun k hk => Lax k hk
  go_wp2_with fail
  refine (lawsToIntS _ 0 _ nu cu Au lu (hu.up (by omega) (by exact belA)) (Nat.le_refl _) hlu).mono ?_
  rintro e w6 ⟨Fux, Aux, nux, cux, rfl, oux, fux, b⟩
  have hx : Below w5.heap.size w5 w6 := by exact belA
  have zw6 := hx.size
  replace hb := below_then hb hx
  replace h0a := h0a.below hx (by omega)
  replace hu := hu.below hx (by omega)
  replace h2zw := h2zw.below hx (by omega)
  replace o0ax := o0ax.below hx
  replace ka0 := below_cell hx ka0
  replace cw0 := below_cell hx cw0
  replace cw1 := below_cell hx cw1
  replace cw2 := below_cell hx cw2
  replace cw3 := below_cell hx cw3
  replace zka : w.heap.size < w6.heap.size := by omega
  replace zcw : w4.heap.size < w6.heap.size := by omega
  obtain ⟨hcE, hfE⟩ := bcell b
  have ja0 : w6.cell? ⟨w5.heap.size, 0, none⟩ = some (.slice A0ax n0ax c0ax) := by simp [hcE, go_sem]
  clear hcE hfE
  have zja : w5.heap.size < w6.heap.size := World.block_lt_of_cell? w6 _ ja0
  have yja := zja
  clear hx
  clear b
  skip
  have Lux : ∀ k, k ∈ Fux → k < w6.heap.size := oux.lt
  replace fux : ∀ k, k ∈ Fux → w5.heap.size + 1 ≤ k := fun k hk => by have := fux k hk; first | omega | (simp at this; omega)
  go_wp2_with fail
  refine (implRunBigC _ A0ax n0ax c0ax s0a Aux nux cux lu vc vd (o0ax.sl.next (by exact belA)) mm0a (oux.sl.next (by exact belA)) ic id x0z x1z s2z x3z HZ.out bz HBZ.out).mono ?_
  rintro e w7 ⟨A2zg, n2zg, c2zg, F2zg, rfl, o2zg, ndzg, fzg, b⟩
  have hx : Below w6.heap.size w6 w7 := by exact belA
  have zw7 := hx.size
  replace hb := below_then hb hx
  replace h0a := h0a.below hx (by omega)
  replace hu := hu.below hx (by omega)
  replace h2zw := h2zw.below hx (by omega)
  replace o0ax := o0ax.below hx
  replace oux := oux.below hx
  replace ka0 := below_cell hx ka0
  replace cw0 := below_cell hx cw0
  replace cw1 := below_cell hx cw1
  replace cw2 := below_cell hx cw2
  replace cw3 := below_cell hx cw3
  replace ja0 := below_cell hx ja0
  replace zka : w.heap.size < w7.heap.size := by omega
  replace zcw : w4.heap.size < w7.heap.size := by omega
  replace zja : w5.heap.size < w7.heap.size := by omega
  clear hx
  clear b
  replace fzg : ∀ k, k ∈ F2zg → w6.heap.size ≤ k := fun k hk => by have := fzg k hk; first | omega | (simp at this; omega)
  have f2zg : ∀ k, k ∈ F2zg → _ ≤ k := fun k hk => fzg k hk
  have L2zg := o2zg.lt
  have Lzg := L2zg
  go_wp2_with fail
  refine (lawsEqOutcome _ 0 _ 0 _ x0z x1z A2zg n2zg c2zg s2z x3z x0z x1z A2zw n2zw c2zw s2z x3z (o2zg.sl.next (by exact belA)) ((h2zw.more (Nat.le_refl _) (by omega)).next (by exact belA)) (Nat.le_refl _) (Nat.le_refl _)).mono ?_
  rintro e w8 ⟨rfl, b⟩
  have hx : Below w7.heap.size w7 w8 := by exact belA
  have zw8 := hx.size
  replace hb := below_then hb hx
  replace h0a := h0a.below hx (by omega)
  replace hu := hu.below hx (by omega)
  replace h2zw := h2zw.below hx (by omega)
  replace o0ax := o0ax.below hx
  replace oux := oux.below hx
  replace o2zg := o2zg.below hx
  replace ka0 := below_cell hx ka0
  replace cw0 := below_cell hx cw0
  replace cw1 := below_cell hx cw1
  replace cw2 := below_cell hx cw2
  replace cw3 := below_cell hx cw3
  replace ja0 := below_cell hx ja0
  replace zka : w.heap.size < w8.heap.size := by omega
  replace zcw : w4.heap.size < w8.heap.size := by omega
  replace zja : w5.heap.size < w8.heap.size := by omega
  obtain ⟨hcE, hfE⟩ := bcell b
  have cg0 : w8.cell? ⟨w7.heap.size, 0, none⟩ = some (.int .i64 x0z) := by simp [hcE, go_sem]
  have cg1 : w8.cell? ⟨w7.heap.size, 1, none⟩ = some (.int .i64 x1z) := by simp [hcE, go_sem]
  have cg2 : w8.cell? ⟨w7.heap.size, 2, none⟩ = some (.slice A2zg n2zg c2zg) := by simp [hcE, go_sem]
  have cg3 : w8.cell? ⟨w7.heap.size, 3, none⟩ = some (.int .i64 x3z) := by simp [hcE, go_sem]
  clear hcE hfE
  have zcg : w7.heap.size < w8.heap.size := World.block_lt_of_cell? w8 _ cg0
  have ycg := zcg
  clear hx
  clear b
  have hE := eqB_true (rfl : s0a = s0a)
  go_wp2_with fail
  go_region_held3 (fun W => W.cell? ⟨w.heap.size, 0, none⟩ = some (.slice A0a n0a c0a) ∧ W.cell? ⟨w5.heap.size, 0, none⟩ = some (.slice A0ax n0ax c0ax))
    (first | exact ⟨ka0, ja0⟩ | exact ⟨below_cell bw9 ka0, below_cell bw9 ja0⟩ | exact ⟨below_cell bw10 (below_cell bw9 ka0), below_cell bw10 (below_cell bw9 ja0)⟩)
    (first | (go_at_call 17; ((with_reducible refine (lawsToProg _ 0 _ A0a n0a c0a s0a (h0a.up (by omega) (by exact belA)) (Nat.le_refl _) mm0a ).mono ?_); rintro e w9 ⟨Fay, A0ay, n0ay, c0ay, rfl, oay, fay, bw9⟩)) | (go_at_call 20; ((with_reducible refine (lawsEqProg _ 0 _ 0 _ A0ax n0ax c0ax s0a A0ay n0ay c0ay s0a (o0ax.sl.next (by exact belA)) ((Prog_sl0 oay).next (by exact belA)) (Nat.le_refl _) (Nat.le_refl _)).mono ?_); rintro e w10 ⟨rfl, bw10⟩)))
  have hx : Below w8.heap.size w8 w10 := by exact belA
  have zw10 := hx.size
  replace hb := below_then hb hx
  replace h0a := h0a.below hx (by omega)
  replace hu := hu.below hx (by omega)
  replace h2zw := h2zw.below hx (by omega)
  replace o0ax := o0ax.below hx
  replace oux := oux.below hx
  replace o2zg := o2zg.below hx
  replace ka0 := below_cell hx ka0
  replace cw0 := below_cell hx cw0
  replace cw1 := below_cell hx cw1
  replace cw2 := below_cell hx cw2
  replace cw3 := below_cell hx cw3
  replace ja0 := below_cell hx ja0
  replace cg0 := below_cell hx cg0
  replace cg1 := below_cell hx cg1
  replace cg2 := below_cell hx cg2
  replace cg3 := below_cell hx cg3
  replace zka : w.heap.size < w10.heap.size := by omega
  replace zcw : w4.heap.size < w10.heap.size := by omega
  replace zja : w5.heap.size < w10.heap.size := by omega
  replace zcg : w7.heap.size < w10.heap.size := by omega
  clear hx
  clear bw10 bw9 oay fay hE
  go_wp2_with fail
  refine (lawsToIntS _ 0 _ nu cu Au lu (hu.up (by omega) (by exact belA)) (Nat.le_refl _) hlu).mono ?_
  rintro e w11 ⟨Fuy, Auy, nuy, cuy, rfl, ouy, fuy, b⟩
  have hx : Below w10.heap.size w10 w11 := by exact belA
  have zw11 := hx.size
  replace hb := below_then hb hx
  replace h0a := h0a.below hx (by omega)
  replace hu := hu.below hx (by omega)
  replace h2zw := h2zw.below hx (by omega)
  replace o0ax := o0ax.below hx
  replace oux := oux.below hx
  replace o2zg := o2zg.below hx
  replace ka0 := below_cell hx ka0
  replace cw0 := below_cell hx cw0
  replace cw1 := below_cell hx cw1
  replace cw2 := below_cell hx cw2
  replace cw3 := below_cell hx cw3
  replace ja0 := below_cell hx ja0
  replace cg0 := below_cell hx cg0
  replace cg1 := below_cell hx cg1
  replace cg2 := below_cell hx cg2
  replace cg3 := below_cell hx cg3
  replace zka : w.heap.size < w11.heap.size := by omega
  replace zcw : w4.heap.size < w11.heap.size := by omega
  replace zja : w5.heap.size < w11.heap.size := by omega
  replace zcg : w7.heap.size < w11.heap.size := by omega
  clear hx
  clear b
  have hE := eqB_true (rfl : lu = lu)
  go_wp2_with fail
  refine (lawsEqIntS _ 0 _ 0 _ nux nuy cux cuy Aux Auy _ _ oux.sl ouy.sl (Nat.le_refl _) (Nat.le_refl _)).mono ?_
  rintro e w12 ⟨rfl, b⟩
  have hx : Below w11.heap.size w11 w12 := by exact belA
  have zw12 := hx.size
  replace hb := below_then hb hx
  replace h0a := h0a.below hx (by omega)
  replace hu := hu.below hx (by omega)
  replace h2zw := h2zw.below hx (by omega)
  replace o0ax := o0ax.below hx
  replace oux := oux.below hx
  replace o2zg := o2zg.below hx
  replace ouy := ouy.below hx
  replace ka0 := below_cell hx ka0
  replace cw0 := below_cell hx cw0
  replace cw1 := below_cell hx cw1
  replace cw2 := below_cell hx cw2
  replace cw3 := below_cell hx cw3
  replace ja0 := below_cell hx ja0
  replace cg0 := below_cell hx cg0
  replace cg1 := below_cell hx cg1
  replace cg2 := below_cell hx cg2
  replace cg3 := below_cell hx cg3
  replace zka : w.heap.size < w12.heap.size := by omega
  replace zcw : w4.heap.size < w12.heap.size := by omega
  replace zja : w5.heap.size < w12.heap.size := by omega
  replace zcg : w7.heap.size < w12.heap.size := by omega
  clear hx
  clear b
  clear ouy fuy
  go_wp2_with fail
  have ct0 := cntFunc_le s0a
  refine (mkProgTop _ A0ax n0ax c0ax s0a 1 F0ax o0ax ndax (by omega) (by omega)).mono ?_
  rintro e w13 ⟨rax, rfl, qr, om0, hf⟩
  clear om0
  have hr0ax : 0 ≤ rax := by omega
  have hr1ax : rax ≤ 1099511627776 := by omega
  clear qr
  clear ct0
  have zw13 := hf.size
  replace hb := below_fr hb hf (fun k hk => by have := fax k hk; omega)
  replace h0a := h0a.fr hf (by omega) (fun k hk => by have := fax k hk; have := Lax k hk; first | exact Or.inr (by omega) | exact Or.inl (by omega))
  replace hu := hu.fr hf (by omega) (fun k hk => by have := fax k hk; have := Lax k hk; first | exact Or.inr (by omega) | exact Or.inl (by omega))
  replace h2zw := h2zw.fr hf (by omega) (fun k hk => by have := fax k hk; have := Lax k hk; first | exact Or.inr (by omega) | exact Or.inl (by omega))
  replace oux := oux.fr hf (fun k hk hk' => by have := fux k hk; have := Lux k hk; have := fax k hk'; have := Lax k hk'; omega)
  replace o2zg := o2zg.fr hf (fun k hk hk' => by have := f2zg k hk; have := L2zg k hk; have := fax k hk'; have := Lax k hk'; omega)
  replace ka0 := cell_fr hf (fun hk => by have := fax _ hk; omega) ka0
  replace cw0 := cell_fr hf (fun hk => by have := fax _ hk; have := Lax _ hk; omega) cw0
  replace cw1 := cell_fr hf (fun hk => by have := fax _ hk; have := Lax _ hk; omega) cw1
  replace cw2 := cell_fr hf (fun hk => by have := fax _ hk; have := Lax _ hk; omega) cw2
  replace cw3 := cell_fr hf (fun hk => by have := fax _ hk; have := Lax _ hk; omega) cw3
  replace ja0 := cell_fr hf (fun hk => by have := fax _ hk; have := Lax _ hk; omega) ja0
  replace cg0 := cell_fr hf (fun hk => by have := fax _ hk; have := Lax _ hk; omega) cg0
  replace cg1 := cell_fr hf (fun hk => by have := fax _ hk; have := Lax _ hk; omega) cg1
  replace cg2 := cell_fr hf (fun hk => by have := fax _ hk; have := Lax _ hk; omega) cg2
  replace cg3 := cell_fr hf (fun hk => by have := fax _ hk; have := Lax _ hk; omega) cg3
  replace zka : w.heap.size < w13.heap.size := by omega
  replace zcw : w4.heap.size < w13.heap.size := by omega
  replace zja : w5.heap.size < w13.heap.size := by omega
  replace zcg : w7.heap.size < w13.heap.size := by omega
  clear hf
  go_wp2_with fail
  have ct := cntInt_le lu
  rw [e1u.out] at ct
  refine (mkInts _ nux cux Aux Fux lu rax oux (by omega) (by omega)).mono ?_
  rintro e w14 ⟨rux, rfl, qr, om, hf⟩
  clear om
  have hr0ux : 0 ≤ rux := by omega
  have hr1ux : rux ≤ 2199023255552 := by omega
  clear qr ct
  have zw14 := hf.size
  replace hb := below_fr hb hf (fun k hk => by have := fux k hk; omega)
  replace h0a := h0a.fr hf (by omega) (fun k hk => by have := fux k hk; have := Lux k hk; first | exact Or.inr (by omega) | exact Or.inl (by omega))
  replace hu := hu.fr hf (by omega) (fun k hk => by have := fux k hk; have := Lux k hk; first | exact Or.inr (by omega) | exact Or.inl (by omega))
  replace h2zw := h2zw.fr hf (by omega) (fun k hk => by have := fux k hk; have := Lux k hk; first | exact Or.inr (by omega) | exact Or.inl (by omega))
  replace o2zg := o2zg.fr hf (fun k hk hk' => by have := f2zg k hk; have := L2zg k hk; have := fux k hk'; have := Lux k hk'; omega)
  replace ka0 := cell_fr hf (fun hk => by have := fux _ hk; omega) ka0
  replace cw0 := cell_fr hf (fun hk => by have := fux _ hk; have := Lux _ hk; omega) cw0
  replace cw1 := cell_fr hf (fun hk => by have := fux _ hk; have := Lux _ hk; omega) cw1
  replace cw2 := cell_fr hf (fun hk => by have := fux _ hk; have := Lux _ hk; omega) cw2
  replace cw3 := cell_fr hf (fun hk => by have := fux _ hk; have := Lux _ hk; omega) cw3
  replace ja0 := cell_fr hf (fun hk => by have := fux _ hk; have := Lux _ hk; omega) ja0
  replace cg0 := cell_fr hf (fun hk => by have := fux _ hk; have := Lux _ hk; omega) cg0
  replace cg1 := cell_fr hf (fun hk => by have := fux _ hk; have := Lux _ hk; omega) cg1
  replace cg2 := cell_fr hf (fun hk => by have := fux _ hk; have := Lux _ hk; omega) cg2
  replace cg3 := cell_fr hf (fun hk => by have := fux _ hk; have := Lux _ hk; omega) cg3
  replace zka : w.heap.size < w14.heap.size := by omega
  replace zcw : w4.heap.size < w14.heap.size := by omega
  replace zja : w5.heap.size < w14.heap.size := by omega
  replace zcg : w7.heap.size < w14.heap.size := by omega
  clear hf
  clear ja0
  go_wp2_with fail
  refine (lawsEqOutcome _ 0 _ 0 _ x0z x1z A2zg n2zg c2zg s2z x3z x0z x1z A2zw n2zw c2zw s2z x3z (o2zg.sl.next (by exact belA)) ((h2zw.more (Nat.le_refl _) (by omega)).next (by exact belA)) (Nat.le_refl _) (Nat.le_refl _)).mono ?_
  rintro e w15 ⟨rfl, b⟩
  have hx : Below w14.heap.size w14 w15 := by exact belA
  have zw15 := hx.size
  replace hb := below_then hb hx
  replace h0a := h0a.below hx (by omega)
  replace hu := hu.below hx (by omega)
  replace h2zw := h2zw.below hx (by omega)
  replace o2zg := o2zg.below hx
  replace ka0 := below_cell hx ka0
  replace cw0 := below_cell hx cw0
  replace cw1 := below_cell hx cw1
  replace cw2 := below_cell hx cw2
  replace cw3 := below_cell hx cw3
  replace cg0 := below_cell hx cg0
  replace cg1 := below_cell hx cg1
  replace cg2 := below_cell hx cg2
  replace cg3 := below_cell hx cg3
  replace zka : w.heap.size < w15.heap.size := by omega
  replace zcw : w4.heap.size < w15.heap.size := by omega
  replace zja : w5.heap.size < w15.heap.size := by omega
  replace zcg : w7.heap.size < w15.heap.size := by omega
  clear hx
  clear b
  have ct2 := cntInt_le s2z
  have ct : cntL cntInt s2z ≤ 17592186044416 := by have := hRes.out; omega
  clear ct2
  go_wp2_with fail
  refine (mkOutcomeTop _ x0z x1z A2zg n2zg c2zg s2z x3z 1 F2zg o2zg ndzg (by omega) (by omega)).mono ?_
  rintro e w16 ⟨rm, rfl, qm, om2, hf⟩
  have zw16 := hf.size
  replace hb := below_fr hb hf (fun k hk => by have := fzg k hk; omega)
  replace h0a := h0a.fr hf (by omega) (fun k hk => by have := fzg k hk; have := Lzg k hk; first | exact Or.inr (by omega) | exact Or.inl (by omega))
  replace hu := hu.fr hf (by omega) (fun k hk => by have := fzg k hk; have := Lzg k hk; first | exact Or.inr (by omega) | exact Or.inl (by omega))
  replace h2zw := h2zw.fr hf (by omega) (fun k hk => by have := fzg k hk; have := Lzg k hk; first | exact Or.inr (by omega) | exact Or.inl (by omega))
  replace ka0 := cell_fr hf (fun hk => by have := fzg _ hk; omega) ka0
  replace cw0 := cell_fr hf (fun hk => by have := fzg _ hk; have := Lzg _ hk; omega) cw0
  replace cw1 := cell_fr hf (fun hk => by have := fzg _ hk; have := Lzg _ hk; omega) cw1
  replace cw2 := cell_fr hf (fun hk => by have := fzg _ hk; have := Lzg _ hk; omega) cw2
  replace cw3 := cell_fr hf (fun hk => by have := fzg _ hk; have := Lzg _ hk; omega) cw3
  replace cg0 := cell_fr hf (fun hk => by have := fzg _ hk; have := Lzg _ hk; omega) cg0
  replace cg1 := cell_fr hf (fun hk => by have := fzg _ hk; have := Lzg _ hk; omega) cg1
  replace cg2 := cell_fr hf (fun hk => by have := fzg _ hk; have := Lzg _ hk; omega) cg2
  replace cg3 := cell_fr hf (fun hk => by have := fzg _ hk; have := Lzg _ hk; omega) cg3
  replace zka : w.heap.size < w16.heap.size := by omega
  replace zcw : w4.heap.size < w16.heap.size := by omega
  replace zja : w5.heap.size < w16.heap.size := by omega
  replace zcg : w7.heap.size < w16.heap.size := by omega
  clear hf o2zg
  have o2zg := om2
  clear om2
  have pm : 0 ≤ rm := by omega
  have pm2 : rm ≤ 17592186044420 := by omega
  replace qm := Lib.hid qm
  go_wp2_with fail
  refine (hdOutcomeTop _ 0 _ x0z x1z A2zg n2zg c2zg s2z x3z 1 o2zg.sl (Nat.le_refl _) (by omega) (by omega)).mono ?_
  rintro e w17 ⟨rh, rfl, qh, b⟩
  have hx : Below w16.heap.size w16 w17 := by exact belA
  have zw17 := hx.size
  replace hb := below_then hb hx
  replace h0a := h0a.below hx (by omega)
  replace hu := hu.below hx (by omega)
  replace h2zw := h2zw.below hx (by omega)
  replace o2zg := o2zg.below hx
  replace ka0 := below_cell hx ka0
  replace cw0 := below_cell hx cw0
  replace cw1 := below_cell hx cw1
  replace cw2 := below_cell hx cw2
  replace cw3 := below_cell hx cw3
  replace cg0 := below_cell hx cg0
  replace cg1 := below_cell hx cg1
  replace cg2 := below_cell hx cg2
  replace cg3 := below_cell hx cg3
  replace zka : w.heap.size < w17.heap.size := by omega
  replace zcw : w4.heap.size < w17.heap.size := by omega
  replace zja : w5.heap.size < w17.heap.size := by omega
  replace zcg : w7.heap.size < w17.heap.size := by omega
  clear hx
  clear b
  obtain rfl : rm = rh := by have := qm.out; omega
  clear qh
  go_wp2_with fail
  refine (lawsToProg _ 0 _ A0a n0a c0a s0a (h0a.up (by omega) (by exact belA)) (Nat.le_refl _) mm0a ).mono ?_
  rintro e w18 ⟨Faz, A0az, n0az, c0az, rfl, oaz, faz, b⟩
  have hx : Below w17.heap.size w17 w18 := by exact belA
  have zw18 := hx.size
  replace hb := below_then hb hx
  replace h0a := h0a.below hx (by omega)
  replace hu := hu.below hx (by omega)
  replace h2zw := h2zw.below hx (by omega)
  replace o2zg := o2zg.below hx
  replace ka0 := below_cell hx ka0
  replace cw0 := below_cell hx cw0
  replace cw1 := below_cell hx cw1
  replace cw2 := below_cell hx cw2
  replace cw3 := below_cell hx cw3
  replace cg0 := below_cell hx cg0
  replace cg1 := below_cell hx cg1
  replace cg2 := below_cell hx cg2
  replace cg3 := below_cell hx cg3
  replace zka : w.heap.size < w18.heap.size := by omega
  replace zcw : w4.heap.size < w18.heap.size := by omega
  replace zja : w5.heap.size < w18.heap.size := by omega
  replace zcg : w7.heap.size < w18.heap.size := by omega
  clear hx
  clear b
  go_wp2_with fail
  refine (lawsToIntS _ 0 _ nu cu Au lu (hu.up (by omega) (by exact belA)) (Nat.le_refl _) hlu).mono ?_
  rintro e w19 ⟨Fuz, Auz, nuz, cuz, rfl, ouz, fuz, b⟩
  have hx : Below w18.heap.size w18 w19 := by exact belA
  have zw19 := hx.size
  replace hb := below_then hb hx
  replace h0a := h0a.below hx (by omega)
  replace hu := hu.below hx (by omega)
  replace h2zw := h2zw.below hx (by omega)
  replace o2zg := o2zg.below hx
  replace ka0 := below_cell hx ka0
  replace cw0 := below_cell hx cw0
  replace cw1 := below_cell hx cw1
  replace cw2 := below_cell hx cw2
  replace cw3 := below_cell hx cw3
  replace cg0 := below_cell hx cg0
  replace cg1 := below_cell hx cg1
  replace cg2 := below_cell hx cg2
  replace cg3 := below_cell hx cg3
  replace zka : w.heap.size < w19.heap.size := by omega
  replace zcw : w4.heap.size < w19.heap.size := by omega
  replace zja : w5.heap.size < w19.heap.size := by omega
  replace zcg : w7.heap.size < w19.heap.size := by omega
  have hxz := Lib.hid hx
  clear hx
  clear b
  go_wp2_with fail
  refine (implRunBigC w19 A0az n0az c0az s0a Auz nuz cuz lu vc vd ((Prog_sl0 oaz).next hxz.out) mm0a ((ouz.sl).next (by exact belA)) ic id x0z x1z s2z x3z HZ.out bz HBZ.out).mono ?_
  rintro e w20 ⟨A2zh, n2zh, c2zh, F2zh, rfl, o2zh, ndzh, fzh, b⟩
  have hx : Below w19.heap.size w19 w20 := by exact belA
  have zw20 := hx.size
  replace hb := below_then hb hx
  replace h0a := h0a.below hx (by omega)
  replace hu := hu.below hx (by omega)
  replace h2zw := h2zw.below hx (by omega)
  replace o2zg := o2zg.below hx
  replace ouz := ouz.below hx
  replace ka0 := below_cell hx ka0
  replace cw0 := below_cell hx cw0
  replace cw1 := below_cell hx cw1
  replace cw2 := below_cell hx cw2
  replace cw3 := below_cell hx cw3
  replace cg0 := below_cell hx cg0
  replace cg1 := below_cell hx cg1
  replace cg2 := below_cell hx cg2
  replace cg3 := below_cell hx cg3
  replace zka : w.heap.size < w20.heap.size := by omega
  replace zcw : w4.heap.size < w20.heap.size := by omega
  replace zja : w5.heap.size < w20.heap.size := by omega
  replace zcg : w7.heap.size < w20.heap.size := by omega
  clear hx
  clear b
  clear oaz faz
  clear ouz fuz
  go_wp2_with fail
  refine (lawsEqOutcome _ 0 _ 0 _ x0z x1z A2zh n2zh c2zh s2z x3z x0z x1z A2zw n2zw c2zw s2z x3z (o2zh.sl.next (by exact belA)) ((h2zw.more (Nat.le_refl _) (by omega)).next (by exact belA)) (Nat.le_refl _) (Nat.le_refl _)).mono ?_
  rintro e w21 ⟨rfl, b⟩
  have hx : Below w20.heap.size w20 w21 := by exact belA
  have zw21 := hx.size
  replace hb := below_then hb hx
  replace h0a := h0a.below hx (by omega)
  replace hu := hu.below hx (by omega)
  replace h2zw := h2zw.below hx (by omega)
  replace o2zg := o2zg.below hx
  replace o2zh := o2zh.below hx
  replace ka0 := below_cell hx ka0
  replace cw0 := below_cell hx cw0
  replace cw1 := below_cell hx cw1
  replace cw2 := below_cell hx cw2
  replace cw3 := below_cell hx cw3
  replace cg0 := below_cell hx cg0
  replace cg1 := below_cell hx cg1
  replace cg2 := below_cell hx cg2
  replace cg3 := below_cell hx cg3
  replace zka : w.heap.size < w21.heap.size := by omega
  replace zcw : w4.heap.size < w21.heap.size := by omega
  replace zja : w5.heap.size < w21.heap.size := by omega
  replace zcg : w7.heap.size < w21.heap.size := by omega
  obtain ⟨hcE, hfE⟩ := bcell b
  have ch0 : w21.cell? ⟨w20.heap.size, 0, none⟩ = some (.int .i64 x0z) := by simp [hcE, go_sem]
  have ch1 : w21.cell? ⟨w20.heap.size, 1, none⟩ = some (.int .i64 x1z) := by simp [hcE, go_sem]
  have ch2 : w21.cell? ⟨w20.heap.size, 2, none⟩ = some (.slice A2zh n2zh c2zh) := by simp [hcE, go_sem]
  have ch3 : w21.cell? ⟨w20.heap.size, 3, none⟩ = some (.int .i64 x3z) := by simp [hcE, go_sem]
  clear hcE hfE
  have zch : w20.heap.size < w21.heap.size := World.block_lt_of_cell? w21 _ ch0
  have ych := zch
  clear hx
  clear b
  clear o2zh ndzh fzh
  go_wp2_with fail
  refine (hdOutcomeTop _ 0 _ x0z x1z A2zg n2zg c2zg s2z x3z 1 o2zg.sl (Nat.le_refl _) (by omega) (by omega)).mono ?_
  rintro e w22 ⟨rh, rfl, qh, b⟩
  have hx : Below w21.heap.size w21 w22 := by exact belA
  have zw22 := hx.size
  replace hb := below_then hb hx
  replace h0a := h0a.below hx (by omega)
  replace hu := hu.below hx (by omega)
  replace h2zw := h2zw.below hx (by omega)
  replace o2zg := o2zg.below hx
  replace ka0 := below_cell hx ka0
  replace cw0 := below_cell hx cw0
  replace cw1 := below_cell hx cw1
  replace cw2 := below_cell hx cw2
  replace cw3 := below_cell hx cw3
  replace cg0 := below_cell hx cg0
  replace cg1 := below_cell hx cg1
  replace cg2 := below_cell hx cg2
  replace cg3 := below_cell hx cg3
  replace ch0 := below_cell hx ch0
  replace ch1 := below_cell hx ch1
  replace ch2 := below_cell hx ch2
  replace ch3 := below_cell hx ch3
  replace zka : w.heap.size < w22.heap.size := by omega
  replace zcw : w4.heap.size < w22.heap.size := by omega
  replace zja : w5.heap.size < w22.heap.size := by omega
  replace zcg : w7.heap.size < w22.heap.size := by omega
  replace zch : w20.heap.size < w22.heap.size := by omega
  clear hx
  clear b
  obtain rfl : rm = rh := by have := qm.out; omega
  clear qh
  go_wp2_with fail
  go_ret
  exact RetB.mk rfl hb

theorem fnRunBigA (w : World) (csa : Array Value) (ea : Prog) (hla : ProgR.rel w 0 w.heap.size csa.toList ea) (Au : Option Addr) (nu cu : Nat) (lu : List Int) (hu : Sl intR w 0 w.heap.size Au nu cu lu) (vc : Int) (ic : I64 vc) (vd : Int) (id : I64 vd) :
    Calls Try.prog 5 #[.agg csa, .slice Au nu cu, .int .i64 vc, .int .i64 vd] w (RetB true w) := by
  obtain ⟨A0a, n0a, c0a, s0a, hca, hea, h0a⟩ := Prog_rel hla
  obtain ⟨csa⟩ := csa
  simp only at hca
  subst hca hea
  exact fnRunBig w A0a n0a c0a ea Au nu cu lu vc vd h0a  hu ic id

end Go.Proofs.Ytgoinmdnpaknpaa
