/- For every image the program's TidyImage returns what the reference's returns: FnExactTidyImage returns true, and its arguments read as they did. No condition beyond the row's own. -/
import Derived.Test.YtmnkgcjbckamnaaGreatTidy3
import Derived.Test.YtmnkgcjbckamnaaGreatOwnOne
import Derived.Test.YtmnkgcjbckamnaaGreatMkIm
import Derived.Test.YtmnkgcjbckamnaaGreatKit1
import Derived.Deep.RegionHeld3
set_option linter.unusedVariables false
set_option linter.unusedSimpArgs false
set_option maxRecDepth 100000
namespace Go.Proofs.YtmnkgcjbckamnaaGreat
open Go.ChangeShapes Go.WideShapes Go.ChangeAt Go.RowKit
open Go.ChangeMaps (open_string)

theorem ownsl_nodup {α : Type} {R : Rp α} {w : World} {e : TypeId} {F : List Nat} {v : Value} {l : List α} (h : OwnSl R w e F v l) : F.Nodup := by
  obtain ⟨_, _, _, _, rfl, hn⟩ := h; exact hn
set_option maxHeartbeats 8000000 in
theorem fnTidyImage (w : World) (A0a : Option Addr) (n0a c0a : Nat) (s0a : List Code) (h0a : Sl CodeR w 0 w.heap.size A0a n0a c0a s0a)  :
    Calls Tryz.prog 4 #[.agg #[.slice A0a n0a c0a]] w (RetB true w) := by
  go_enter Tryz.func4, Tryz.ntmps4
  go_wp2_with fail
  refine (lawsSzImage _ 0 _ A0a n0a c0a s0a (h0a.up (by omega) (by (repeat (first | with_reducible exact Below.refl _ _ | with_reducible assumption | with_reducible refine below_alloc ?_ _ | ((with_reducible refine Below.setCell ?_ ?_ _); rotate_left; (· first | exact Nat.le_refl _ | (simp; done) | (simp; omega))) | with_reducible refine below_drewN ?_ _ | with_reducible refine Below.drew ?_ | with_reducible refine below_then ?_ (by with_reducible assumption))))) (Nat.le_refl _) 1048576 (by omega) (by omega)).mono ?_
  rintro e w1 ⟨ra, rfl, hra, b⟩
  have hb : Below w.heap.size w w1 := by (repeat (first | with_reducible exact Below.refl _ _ | with_reducible assumption | with_reducible refine below_alloc ?_ _ | ((with_reducible refine Below.setCell ?_ ?_ _); rotate_left; (· first | exact Nat.le_refl _ | (simp; done) | (simp; omega))) | with_reducible refine below_drewN ?_ _ | with_reducible refine Below.drew ?_ | with_reducible refine below_then ?_ (by with_reducible assumption)))
  have hz := hb.size
  replace h0a := h0a.below hb (Nat.le_refl _)
  obtain ⟨hcE, hfE⟩ := bcell b
  have ka0 : w1.cell? ⟨w.heap.size, 0, none⟩ = some (.slice A0a n0a c0a) := by simp [hcE, go_sem]
  clear hcE hfE
  have zka : w.heap.size < w1.heap.size := World.block_lt_of_cell? w1 _ ka0
  have yka := zka
  clear b
  rcases hra with rfl | ⟨qa, ta⟩
  · go_wp2_with fail
    go_ret
    exact RetB.mk rfl hb
  have ma : mszLCode s0a ≤ 1048576 := by omega
  have ua : ra ≤ 1048576 := by omega
  clear ta
  have mm0a : mszLCode s0a ≤ 1048576 := by omega
  obtain ⟨s0z, hz0⟩ : ∃ z, tidyR s0a = z := ⟨_, rfl⟩
  obtain ⟨bz, hbz0⟩ : ∃ b, goodI s0a = b := ⟨_, rfl⟩
  have HZ := Lib.hid hz0
  have HBZ := Lib.hid hbz0
  have hRes := Lib.hid (show mszLCode s0z ≤ 1099511627776 from by have := tidy_sz s0a; rw [hz0] at this; exact Nat.le_trans this (by omega))
  have hEq := eqB_true (rfl : s0z = s0z)
  clear hz0 hbz0
  go_wp2_with fail
  refine (lawsToImage _ 0 _ A0a n0a c0a s0a (h0a.up (by omega) (by (repeat (first | with_reducible exact Below.refl _ _ | with_reducible assumption | with_reducible refine below_alloc ?_ _ | ((with_reducible refine Below.setCell ?_ ?_ _); rotate_left; (· first | exact Nat.le_refl _ | (simp; done) | (simp; omega))) | with_reducible refine below_drewN ?_ _ | with_reducible refine Below.drew ?_ | with_reducible refine below_then ?_ (by with_reducible assumption))))) (Nat.le_refl _) mm0a ).mono ?_
  rintro e w2 ⟨Faq, A0aq, n0aq, c0aq, rfl, oaq, faq, b⟩
  have hx : Below w1.heap.size w1 w2 := by (repeat (first | with_reducible exact Below.refl _ _ | with_reducible assumption | with_reducible refine below_alloc ?_ _ | ((with_reducible refine Below.setCell ?_ ?_ _); rotate_left; (· first | exact Nat.le_refl _ | (simp; done) | (simp; omega))) | with_reducible refine below_drewN ?_ _ | with_reducible refine Below.drew ?_ | with_reducible refine below_then ?_ (by with_reducible assumption)))
  have zw2 := hx.size
  replace hb := below_then hb hx
  replace h0a := h0a.below hx (by omega)
  replace ka0 := below_cell hx ka0
  replace zka : w.heap.size < w2.heap.size := by omega
  clear hx
  clear b
  go_wp2_with fail
  refine (specTidyImageC _ A0aq n0aq c0aq s0a ((Image_sl0 oaq).next (by (repeat (first | with_reducible exact Below.refl _ _ | with_reducible assumption | with_reducible refine below_alloc ?_ _ | ((with_reducible refine Below.setCell ?_ ?_ _); rotate_left; (· first | exact Nat.le_refl _ | (simp; done) | (simp; omega))) | with_reducible refine below_drewN ?_ _ | with_reducible refine Below.drew ?_ | with_reducible refine below_then ?_ (by with_reducible assumption))))) mm0a s0z HZ.out bz HBZ.out).mono ?_
  rintro e w3 ⟨A0zw, n0zw, c0zw, rfl, h0zw, b⟩
  have hx : Below w2.heap.size w2 w3 := by (repeat (first | with_reducible exact Below.refl _ _ | with_reducible assumption | with_reducible refine below_alloc ?_ _ | ((with_reducible refine Below.setCell ?_ ?_ _); rotate_left; (· first | exact Nat.le_refl _ | (simp; done) | (simp; omega))) | with_reducible refine below_drewN ?_ _ | with_reducible refine Below.drew ?_ | with_reducible refine below_then ?_ (by with_reducible assumption)))
  have zw3 := hx.size
  replace hb := below_then hb hx
  replace h0a := h0a.below hx (by omega)
  replace ka0 := below_cell hx ka0
  replace zka : w.heap.size < w3.heap.size := by omega
  clear hx
  clear b
  clear oaq faq
  go_wp2_with fail
  refine (lawsToImage _ 0 _ A0a n0a c0a s0a (h0a.up (by omega) (by (repeat (first | with_reducible exact Below.refl _ _ | with_reducible assumption | with_reducible refine below_alloc ?_ _ | ((with_reducible refine Below.setCell ?_ ?_ _); rotate_left; (· first | exact Nat.le_refl _ | (simp; done) | (simp; omega))) | with_reducible refine below_drewN ?_ _ | with_reducible refine Below.drew ?_ | with_reducible refine below_then ?_ (by with_reducible assumption))))) (Nat.le_refl _) mm0a ).mono ?_
  rintro e w4 ⟨Fax, A0ax, n0ax, c0ax, rfl, oax, fax, b⟩
  have hx : Below w3.heap.size w3 w4 := by (repeat (first | with_reducible exact Below.refl _ _ | with_reducible assumption | with_reducible refine below_alloc ?_ _ | ((with_reducible refine Below.setCell ?_ ?_ _); rotate_left; (· first | exact Nat.le_refl _ | (simp; done) | (simp; omega))) | with_reducible refine below_drewN ?_ _ | with_reducible refine Below.drew ?_ | with_reducible refine below_then ?_ (by with_reducible assumption)))
  have zw4 := hx.size
  replace hb := below_then hb hx
  replace h0a := h0a.below hx (by omega)
  replace h0zw := h0zw.below hx (by omega)
  replace ka0 := below_cell hx ka0
  replace zka : w.heap.size < w4.heap.size := by omega
  obtain ⟨hcE, hfE⟩ := bcell b
  have cw0 : w4.cell? ⟨w3.heap.size, 0, none⟩ = some (.slice A0zw n0zw c0zw) := by simp [hcE, go_sem]
  clear hcE hfE
  have zcw : w3.heap.size < w4.heap.size := World.block_lt_of_cell? w4 _ cw0
  have ycw := zcw
  clear hx
  clear b
  replace fax : ∀ k, k ∈ Fax → w3.heap.size + 1 ≤ k := fun k hk => by have := fax k hk; first | omega | (simp at this; omega)
  have Lax : ∀ k, k ∈ Fax → k < w4.heap.size := ImageR.ownLt oax
  obtain ⟨F0ax, hF0ax⟩ : ∃ F, F = Fax := ⟨_, rfl⟩
  have o0ax : OwnSl CodeR _ 30 Fax (.slice A0ax n0ax c0ax) s0a := own_of1 oax
  rw [← hF0ax] at fax Lax o0ax
  clear oax hF0ax
  have ndax := ownsl_nodup o0ax
  have f0ax : ∀ k, k ∈ F0ax → _ ≤ k := fun k hk => fax k hk
  have L0ax : ∀ k, k ∈ F0ax → k < w4.heap.size := fun k hk => Lax k hk
  go_wp2_with fail
  refine (implTidyImageC _ A0ax n0ax c0ax s0a (o0ax.sl.next (by (repeat (first | with_reducible exact Below.refl _ _ | with_reducible assumption | with_reducible refine below_alloc ?_ _ | ((with_reducible refine Below.setCell ?_ ?_ _); rotate_left; (· first | exact Nat.le_refl _ | (simp; done) | (simp; omega))) | with_reducible refine below_drewN ?_ _ | with_reducible refine Below.drew ?_ | with_reducible refine below_then ?_ (by with_reducible assumption))))) mm0a s0z HZ.out bz HBZ.out).mono ?_
  rintro e w5 ⟨A0zg, n0zg, c0zg, F0zg, rfl, o0zg, ndzg, fzg, b⟩
  have hx : Below w4.heap.size w4 w5 := by (repeat (first | with_reducible exact Below.refl _ _ | with_reducible assumption | with_reducible refine below_alloc ?_ _ | ((with_reducible refine Below.setCell ?_ ?_ _); rotate_left; (· first | exact Nat.le_refl _ | (simp; done) | (simp; omega))) | with_reducible refine below_drewN ?_ _ | with_reducible refine Below.drew ?_ | with_reducible refine below_then ?_ (by with_reducible assumption)))
  have zw5 := hx.size
  replace hb := below_then hb hx
  replace h0a := h0a.below hx (by omega)
  replace h0zw := h0zw.below hx (by omega)
  replace o0ax := o0ax.below hx
  replace ka0 := below_cell hx ka0
  replace cw0 := below_cell hx cw0
  replace zka : w.heap.size < w5.heap.size := by omega
  replace zcw : w3.heap.size < w5.heap.size := by omega
  obtain ⟨hcE, hfE⟩ := bcell b
  have ja0 : w5.cell? ⟨w4.heap.size, 0, none⟩ = some (.slice A0ax n0ax c0ax) := by simp [hcE, go_sem]
  clear hcE hfE
  have zja : w4.heap.size < w5.heap.size := World.block_lt_of_cell? w5 _ ja0
  have yja := zja
  clear hx
  clear b
  replace fzg : ∀ k, k ∈ F0zg → w4.heap.size ≤ k := fun k hk => by have := fzg k hk; first | omega | (simp at this; omega)
  have f0zg : ∀ k, k ∈ F0zg → _ ≤ k := fun k hk => fzg k hk
  have L0zg := o0zg.lt
  have Lzg := L0zg
  go_wp2_with fail
  refine (lawsEqImage _ 0 _ 0 _ A0zg n0zg c0zg s0z A0zw n0zw c0zw s0z (o0zg.sl.next (by (repeat (first | with_reducible exact Below.refl _ _ | with_reducible assumption | with_reducible refine below_alloc ?_ _ | ((with_reducible refine Below.setCell ?_ ?_ _); rotate_left; (· first | exact Nat.le_refl _ | (simp; done) | (simp; omega))) | with_reducible refine below_drewN ?_ _ | with_reducible refine Below.drew ?_ | with_reducible refine below_then ?_ (by with_reducible assumption))))) ((h0zw.more (Nat.le_refl _) (by omega)).next (by (repeat (first | with_reducible exact Below.refl _ _ | with_reducible assumption | with_reducible refine below_alloc ?_ _ | ((with_reducible refine Below.setCell ?_ ?_ _); rotate_left; (· first | exact Nat.le_refl _ | (simp; done) | (simp; omega))) | with_reducible refine below_drewN ?_ _ | with_reducible refine Below.drew ?_ | with_reducible refine below_then ?_ (by with_reducible assumption))))) (Nat.le_refl _) (Nat.le_refl _)).mono ?_
  rintro e w6 ⟨rfl, b⟩
  have hx : Below w5.heap.size w5 w6 := by (repeat (first | with_reducible exact Below.refl _ _ | with_reducible assumption | with_reducible refine below_alloc ?_ _ | ((with_reducible refine Below.setCell ?_ ?_ _); rotate_left; (· first | exact Nat.le_refl _ | (simp; done) | (simp; omega))) | with_reducible refine below_drewN ?_ _ | with_reducible refine Below.drew ?_ | with_reducible refine below_then ?_ (by with_reducible assumption)))
  have zw6 := hx.size
  replace hb := below_then hb hx
  replace h0a := h0a.below hx (by omega)
  replace h0zw := h0zw.below hx (by omega)
  replace o0ax := o0ax.below hx
  replace o0zg := o0zg.below hx
  replace ka0 := below_cell hx ka0
  replace cw0 := below_cell hx cw0
  replace ja0 := below_cell hx ja0
  replace zka : w.heap.size < w6.heap.size := by omega
  replace zcw : w3.heap.size < w6.heap.size := by omega
  replace zja : w4.heap.size < w6.heap.size := by omega
  obtain ⟨hcE, hfE⟩ := bcell b
  have cg0 : w6.cell? ⟨w5.heap.size, 0, none⟩ = some (.slice A0zg n0zg c0zg) := by simp [hcE, go_sem]
  clear hcE hfE
  have zcg : w5.heap.size < w6.heap.size := World.block_lt_of_cell? w6 _ cg0
  have ycg := zcg
  clear hx
  clear b
  have hE := eqB_true (rfl : s0a = s0a)
  go_wp2_with fail
  go_region_held3 (fun W => W.cell? ⟨w.heap.size, 0, none⟩ = some (.slice A0a n0a c0a) ∧ W.cell? ⟨w4.heap.size, 0, none⟩ = some (.slice A0ax n0ax c0ax))
    (first | exact ⟨ka0, ja0⟩ | exact ⟨below_cell bw7 ka0, below_cell bw7 ja0⟩ | exact ⟨below_cell bw8 (below_cell bw7 ka0), below_cell bw8 (below_cell bw7 ja0)⟩)
    (first | (go_at_call 11; ((with_reducible refine (lawsToImage _ 0 _ A0a n0a c0a s0a (h0a.up (by omega) (by (repeat (first | with_reducible exact Below.refl _ _ | with_reducible assumption | with_reducible refine below_alloc ?_ _ | ((with_reducible refine Below.setCell ?_ ?_ _); rotate_left; (· first | exact Nat.le_refl _ | (simp; done) | (simp; omega))) | with_reducible refine below_drewN ?_ _ | with_reducible refine Below.drew ?_ | with_reducible refine below_then ?_ (by with_reducible assumption))))) (Nat.le_refl _) mm0a ).mono ?_); rintro e w7 ⟨Fay, A0ay, n0ay, c0ay, rfl, oay, fay, bw7⟩)) | (go_at_call 14; ((with_reducible refine (lawsEqImage _ 0 _ 0 _ A0ax n0ax c0ax s0a A0ay n0ay c0ay s0a (o0ax.sl.next (by (repeat (first | with_reducible exact Below.refl _ _ | with_reducible assumption | with_reducible refine below_alloc ?_ _ | ((with_reducible refine Below.setCell ?_ ?_ _); rotate_left; (· first | exact Nat.le_refl _ | (simp; done) | (simp; omega))) | with_reducible refine below_drewN ?_ _ | with_reducible refine Below.drew ?_ | with_reducible refine below_then ?_ (by with_reducible assumption))))) ((Image_sl0 oay).next (by (repeat (first | with_reducible exact Below.refl _ _ | with_reducible assumption | with_reducible refine below_alloc ?_ _ | ((with_reducible refine Below.setCell ?_ ?_ _); rotate_left; (· first | exact Nat.le_refl _ | (simp; done) | (simp; omega))) | with_reducible refine below_drewN ?_ _ | with_reducible refine Below.drew ?_ | with_reducible refine below_then ?_ (by with_reducible assumption))))) (Nat.le_refl _) (Nat.le_refl _)).mono ?_); rintro e w8 ⟨rfl, bw8⟩)))
  have hx : Below w6.heap.size w6 w8 := by (repeat (first | with_reducible exact Below.refl _ _ | with_reducible assumption | with_reducible refine below_alloc ?_ _ | ((with_reducible refine Below.setCell ?_ ?_ _); rotate_left; (· first | exact Nat.le_refl _ | (simp; done) | (simp; omega))) | with_reducible refine below_drewN ?_ _ | with_reducible refine Below.drew ?_ | with_reducible refine below_then ?_ (by with_reducible assumption)))
  have zw8 := hx.size
  replace hb := below_then hb hx
  replace h0a := h0a.below hx (by omega)
  replace h0zw := h0zw.below hx (by omega)
  replace o0ax := o0ax.below hx
  replace o0zg := o0zg.below hx
  replace ka0 := below_cell hx ka0
  replace cw0 := below_cell hx cw0
  replace ja0 := below_cell hx ja0
  replace cg0 := below_cell hx cg0
  replace zka : w.heap.size < w8.heap.size := by omega
  replace zcw : w3.heap.size < w8.heap.size := by omega
  replace zja : w4.heap.size < w8.heap.size := by omega
  replace zcg : w5.heap.size < w8.heap.size := by omega
  clear hx
  clear bw8 bw7 oay fay hE
  go_wp2_with fail
  have ct0 := cntCode_le s0a
  refine (mkImageTop _ A0ax n0ax c0ax s0a 1 F0ax o0ax ndax (by omega) (by omega)).mono ?_
  rintro e w9 ⟨rax, rfl, qr, om0, hf⟩
  clear om0
  have hr0ax : 0 ≤ rax := by omega
  have hr1ax : rax ≤ 1099511627776 := by omega
  clear qr
  clear ct0
  have zw9 := hf.size
  replace hb := below_fr hb hf (fun k hk => by have := fax k hk; omega)
  replace h0a := h0a.fr hf (by omega) (fun k hk => by have := fax k hk; have := Lax k hk; first | exact Or.inr (by omega) | exact Or.inl (by omega))
  replace h0zw := h0zw.fr hf (by omega) (fun k hk => by have := fax k hk; have := Lax k hk; first | exact Or.inr (by omega) | exact Or.inl (by omega))
  replace o0zg := o0zg.fr hf (fun k hk hk' => by have := f0zg k hk; have := L0zg k hk; have := fax k hk'; have := Lax k hk'; omega)
  replace ka0 := cell_fr hf (fun hk => by have := fax _ hk; omega) ka0
  replace cw0 := cell_fr hf (fun hk => by have := fax _ hk; have := Lax _ hk; omega) cw0
  replace ja0 := cell_fr hf (fun hk => by have := fax _ hk; have := Lax _ hk; omega) ja0
  replace cg0 := cell_fr hf (fun hk => by have := fax _ hk; have := Lax _ hk; omega) cg0
  replace zka : w.heap.size < w9.heap.size := by omega
  replace zcw : w3.heap.size < w9.heap.size := by omega
  replace zja : w4.heap.size < w9.heap.size := by omega
  replace zcg : w5.heap.size < w9.heap.size := by omega
  clear hf
  clear ja0
  go_wp2_with fail
  refine (lawsEqImage _ 0 _ 0 _ A0zg n0zg c0zg s0z A0zw n0zw c0zw s0z (o0zg.sl.next (by (repeat (first | with_reducible exact Below.refl _ _ | with_reducible assumption | with_reducible refine below_alloc ?_ _ | ((with_reducible refine Below.setCell ?_ ?_ _); rotate_left; (· first | exact Nat.le_refl _ | (simp; done) | (simp; omega))) | with_reducible refine below_drewN ?_ _ | with_reducible refine Below.drew ?_ | with_reducible refine below_then ?_ (by with_reducible assumption))))) ((h0zw.more (Nat.le_refl _) (by omega)).next (by (repeat (first | with_reducible exact Below.refl _ _ | with_reducible assumption | with_reducible refine below_alloc ?_ _ | ((with_reducible refine Below.setCell ?_ ?_ _); rotate_left; (· first | exact Nat.le_refl _ | (simp; done) | (simp; omega))) | with_reducible refine below_drewN ?_ _ | with_reducible refine Below.drew ?_ | with_reducible refine below_then ?_ (by with_reducible assumption))))) (Nat.le_refl _) (Nat.le_refl _)).mono ?_
  rintro e w10 ⟨rfl, b⟩
  have hx : Below w9.heap.size w9 w10 := by (repeat (first | with_reducible exact Below.refl _ _ | with_reducible assumption | with_reducible refine below_alloc ?_ _ | ((with_reducible refine Below.setCell ?_ ?_ _); rotate_left; (· first | exact Nat.le_refl _ | (simp; done) | (simp; omega))) | with_reducible refine below_drewN ?_ _ | with_reducible refine Below.drew ?_ | with_reducible refine below_then ?_ (by with_reducible assumption)))
  have zw10 := hx.size
  replace hb := below_then hb hx
  replace h0a := h0a.below hx (by omega)
  replace h0zw := h0zw.below hx (by omega)
  replace o0zg := o0zg.below hx
  replace ka0 := below_cell hx ka0
  replace cw0 := below_cell hx cw0
  replace cg0 := below_cell hx cg0
  replace zka : w.heap.size < w10.heap.size := by omega
  replace zcw : w3.heap.size < w10.heap.size := by omega
  replace zja : w4.heap.size < w10.heap.size := by omega
  replace zcg : w5.heap.size < w10.heap.size := by omega
  clear hx
  clear b
  have ct0 := cntCode_le s0z
  have ct : cntL cntCode s0z ≤ 17592186044416 := by have := hRes.out; omega
  clear ct0
  go_wp2_with fail
  refine (mkImageTop _ A0zg n0zg c0zg s0z 1 F0zg o0zg ndzg (by omega) (by omega)).mono ?_
  rintro e w11 ⟨rm, rfl, qm, om0, hf⟩
  have zw11 := hf.size
  replace hb := below_fr hb hf (fun k hk => by have := fzg k hk; omega)
  replace h0a := h0a.fr hf (by omega) (fun k hk => by have := fzg k hk; have := Lzg k hk; first | exact Or.inr (by omega) | exact Or.inl (by omega))
  replace h0zw := h0zw.fr hf (by omega) (fun k hk => by have := fzg k hk; have := Lzg k hk; first | exact Or.inr (by omega) | exact Or.inl (by omega))
  replace ka0 := cell_fr hf (fun hk => by have := fzg _ hk; omega) ka0
  replace cw0 := cell_fr hf (fun hk => by have := fzg _ hk; have := Lzg _ hk; omega) cw0
  replace cg0 := cell_fr hf (fun hk => by have := fzg _ hk; have := Lzg _ hk; omega) cg0
  replace zka : w.heap.size < w11.heap.size := by omega
  replace zcw : w3.heap.size < w11.heap.size := by omega
  replace zja : w4.heap.size < w11.heap.size := by omega
  replace zcg : w5.heap.size < w11.heap.size := by omega
  clear hf o0zg
  have o0zg := om0
  clear om0
  have pm : 0 ≤ rm := by omega
  have pm2 : rm ≤ 17592186044420 := by omega
  replace qm := Lib.hid qm
  go_wp2_with fail
  refine (hdImageTop _ 0 _ A0zg n0zg c0zg s0z 1 o0zg.sl (Nat.le_refl _) (by omega) (by omega)).mono ?_
  rintro e w12 ⟨rh, rfl, qh, b⟩
  have hx : Below w11.heap.size w11 w12 := by (repeat (first | with_reducible exact Below.refl _ _ | with_reducible assumption | with_reducible refine below_alloc ?_ _ | ((with_reducible refine Below.setCell ?_ ?_ _); rotate_left; (· first | exact Nat.le_refl _ | (simp; done) | (simp; omega))) | with_reducible refine below_drewN ?_ _ | with_reducible refine Below.drew ?_ | with_reducible refine below_then ?_ (by with_reducible assumption)))
  have zw12 := hx.size
  replace hb := below_then hb hx
  replace h0a := h0a.below hx (by omega)
  replace h0zw := h0zw.below hx (by omega)
  replace o0zg := o0zg.below hx
  replace ka0 := below_cell hx ka0
  replace cw0 := below_cell hx cw0
  replace cg0 := below_cell hx cg0
  replace zka : w.heap.size < w12.heap.size := by omega
  replace zcw : w3.heap.size < w12.heap.size := by omega
  replace zja : w4.heap.size < w12.heap.size := by omega
  replace zcg : w5.heap.size < w12.heap.size := by omega
  clear hx
  clear b
  obtain rfl : rm = rh := by have := qm.out; omega
  clear qh
  go_wp2_with fail
  refine (lawsToImage _ 0 _ A0a n0a c0a s0a (h0a.up (by omega) (by (repeat (first | with_reducible exact Below.refl _ _ | with_reducible assumption | with_reducible refine below_alloc ?_ _ | ((with_reducible refine Below.setCell ?_ ?_ _); rotate_left; (· first | exact Nat.le_refl _ | (simp; done) | (simp; omega))) | with_reducible refine below_drewN ?_ _ | with_reducible refine Below.drew ?_ | with_reducible refine below_then ?_ (by with_reducible assumption))))) (Nat.le_refl _) mm0a ).mono ?_
  rintro e w13 ⟨Faz, A0az, n0az, c0az, rfl, oaz, faz, b⟩
  have hx : Below w12.heap.size w12 w13 := by (repeat (first | with_reducible exact Below.refl _ _ | with_reducible assumption | with_reducible refine below_alloc ?_ _ | ((with_reducible refine Below.setCell ?_ ?_ _); rotate_left; (· first | exact Nat.le_refl _ | (simp; done) | (simp; omega))) | with_reducible refine below_drewN ?_ _ | with_reducible refine Below.drew ?_ | with_reducible refine below_then ?_ (by with_reducible assumption)))
  have zw13 := hx.size
  replace hb := below_then hb hx
  replace h0a := h0a.below hx (by omega)
  replace h0zw := h0zw.below hx (by omega)
  replace o0zg := o0zg.below hx
  replace ka0 := below_cell hx ka0
  replace cw0 := below_cell hx cw0
  replace cg0 := below_cell hx cg0
  replace zka : w.heap.size < w13.heap.size := by omega
  replace zcw : w3.heap.size < w13.heap.size := by omega
  replace zja : w4.heap.size < w13.heap.size := by omega
  replace zcg : w5.heap.size < w13.heap.size := by omega
  clear hx
  clear b
  go_wp2_with fail
  refine (implTidyImageC _ A0az n0az c0az s0a ((Image_sl0 oaz).next (by (repeat (first | with_reducible exact Below.refl _ _ | with_reducible assumption | with_reducible refine below_alloc ?_ _ | ((with_reducible refine Below.setCell ?_ ?_ _); rotate_left; (· first | exact Nat.le_refl _ | (simp; done) | (simp; omega))) | with_reducible refine below_drewN ?_ _ | with_reducible refine Below.drew ?_ | with_reducible refine below_then ?_ (by with_reducible assumption))))) mm0a s0z HZ.out bz HBZ.out).mono ?_
  rintro e w14 ⟨A0zh, n0zh, c0zh, F0zh, rfl, o0zh, ndzh, fzh, b⟩
  have hx : Below w13.heap.size w13 w14 := by (repeat (first | with_reducible exact Below.refl _ _ | with_reducible assumption | with_reducible refine below_alloc ?_ _ | ((with_reducible refine Below.setCell ?_ ?_ _); rotate_left; (· first | exact Nat.le_refl _ | (simp; done) | (simp; omega))) | with_reducible refine below_drewN ?_ _ | with_reducible refine Below.drew ?_ | with_reducible refine below_then ?_ (by with_reducible assumption)))
  have zw14 := hx.size
  replace hb := below_then hb hx
  replace h0a := h0a.below hx (by omega)
  replace h0zw := h0zw.below hx (by omega)
  replace o0zg := o0zg.below hx
  replace ka0 := below_cell hx ka0
  replace cw0 := below_cell hx cw0
  replace cg0 := below_cell hx cg0
  replace zka : w.heap.size < w14.heap.size := by omega
  replace zcw : w3.heap.size < w14.heap.size := by omega
  replace zja : w4.heap.size < w14.heap.size := by omega
  replace zcg : w5.heap.size < w14.heap.size := by omega
  clear hx
  clear b
  clear oaz faz
  go_wp2_with fail
  refine (lawsEqImage _ 0 _ 0 _ A0zh n0zh c0zh s0z A0zw n0zw c0zw s0z (o0zh.sl.next (by (repeat (first | with_reducible exact Below.refl _ _ | with_reducible assumption | with_reducible refine below_alloc ?_ _ | ((with_reducible refine Below.setCell ?_ ?_ _); rotate_left; (· first | exact Nat.le_refl _ | (simp; done) | (simp; omega))) | with_reducible refine below_drewN ?_ _ | with_reducible refine Below.drew ?_ | with_reducible refine below_then ?_ (by with_reducible assumption))))) ((h0zw.more (Nat.le_refl _) (by omega)).next (by (repeat (first | with_reducible exact Below.refl _ _ | with_reducible assumption | with_reducible refine below_alloc ?_ _ | ((with_reducible refine Below.setCell ?_ ?_ _); rotate_left; (· first | exact Nat.le_refl _ | (simp; done) | (simp; omega))) | with_reducible refine below_drewN ?_ _ | with_reducible refine Below.drew ?_ | with_reducible refine below_then ?_ (by with_reducible assumption))))) (Nat.le_refl _) (Nat.le_refl _)).mono ?_
  rintro e w15 ⟨rfl, b⟩
  have hx : Below w14.heap.size w14 w15 := by (repeat (first | with_reducible exact Below.refl _ _ | with_reducible assumption | with_reducible refine below_alloc ?_ _ | ((with_reducible refine Below.setCell ?_ ?_ _); rotate_left; (· first | exact Nat.le_refl _ | (simp; done) | (simp; omega))) | with_reducible refine below_drewN ?_ _ | with_reducible refine Below.drew ?_ | with_reducible refine below_then ?_ (by with_reducible assumption)))
  have zw15 := hx.size
  replace hb := below_then hb hx
  replace h0a := h0a.below hx (by omega)
  replace h0zw := h0zw.below hx (by omega)
  replace o0zg := o0zg.below hx
  replace o0zh := o0zh.below hx
  replace ka0 := below_cell hx ka0
  replace cw0 := below_cell hx cw0
  replace cg0 := below_cell hx cg0
  replace zka : w.heap.size < w15.heap.size := by omega
  replace zcw : w3.heap.size < w15.heap.size := by omega
  replace zja : w4.heap.size < w15.heap.size := by omega
  replace zcg : w5.heap.size < w15.heap.size := by omega
  obtain ⟨hcE, hfE⟩ := bcell b
  have ch0 : w15.cell? ⟨w14.heap.size, 0, none⟩ = some (.slice A0zh n0zh c0zh) := by simp [hcE, go_sem]
  clear hcE hfE
  have zch : w14.heap.size < w15.heap.size := World.block_lt_of_cell? w15 _ ch0
  have ych := zch
  clear hx
  clear b
  clear o0zh ndzh fzh
  go_wp2_with fail
  refine (hdImageTop _ 0 _ A0zg n0zg c0zg s0z 1 o0zg.sl (Nat.le_refl _) (by omega) (by omega)).mono ?_
  rintro e w16 ⟨rh, rfl, qh, b⟩
  have hx : Below w15.heap.size w15 w16 := by (repeat (first | with_reducible exact Below.refl _ _ | with_reducible assumption | with_reducible refine below_alloc ?_ _ | ((with_reducible refine Below.setCell ?_ ?_ _); rotate_left; (· first | exact Nat.le_refl _ | (simp; done) | (simp; omega))) | with_reducible refine below_drewN ?_ _ | with_reducible refine Below.drew ?_ | with_reducible refine below_then ?_ (by with_reducible assumption)))
  have zw16 := hx.size
  replace hb := below_then hb hx
  replace h0a := h0a.below hx (by omega)
  replace h0zw := h0zw.below hx (by omega)
  replace o0zg := o0zg.below hx
  replace ka0 := below_cell hx ka0
  replace cw0 := below_cell hx cw0
  replace cg0 := below_cell hx cg0
  replace ch0 := below_cell hx ch0
  replace zka : w.heap.size < w16.heap.size := by omega
  replace zcw : w3.heap.size < w16.heap.size := by omega
  replace zja : w4.heap.size < w16.heap.size := by omega
  replace zcg : w5.heap.size < w16.heap.size := by omega
  replace zch : w14.heap.size < w16.heap.size := by omega
  clear hx
  clear b
  obtain rfl : rm = rh := by have := qm.out; omega
  clear qh
  go_wp2_with fail
  go_ret
  exact RetB.mk rfl hb

theorem fnTidyImageA (w : World) (csa : Array Value) (ea : Image) (hla : ImageR.rel w 0 w.heap.size csa.toList ea) :
    Calls Tryz.prog 4 #[.agg csa] w (RetB true w) := by
  obtain ⟨A0a, n0a, c0a, s0a, hca, hea, h0a⟩ := Image_rel hla
  obtain ⟨csa⟩ := csa
  simp only at hca
  subst hca hea
  exact fnTidyImage w A0a n0a c0a ea h0a 

end Go.Proofs.YtmnkgcjbckamnaaGreat
