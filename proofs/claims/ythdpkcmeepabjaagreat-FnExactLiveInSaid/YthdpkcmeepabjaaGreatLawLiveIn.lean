/- For every image and every number of a code the program's LiveIn returns what the reference's returns: FnExactLiveIn returns true, and its arguments read as they did. No condition beyond the row's own. -/
import Derived.Test.YthdpkcmeepabjaaGreatLive
import Derived.Test.YthdpkcmeepabjaaGreatOwnOne
import Derived.Test.YthdpkcmeepabjaaGreatMkIm
import Derived.Test.YthdpkcmeepabjaaGreatKit1
import Derived.Deep.RegionHeld3
set_option linter.unusedVariables false
set_option linter.unusedSimpArgs false
set_option maxRecDepth 100000
namespace Go.Proofs.YthdpkcmeepabjaaGreat
open Go.ChangeShapes Go.WideShapes Go.ChangeAt Go.RowKit
open Go.ChangeMaps (open_string)

theorem ownsl_nodup {α : Type} {R : Rp α} {w : World} {e : TypeId} {F : List Nat} {v : Value} {l : List α} (h : OwnSl R w e F v l) : F.Nodup := by
  obtain ⟨_, _, _, _, rfl, hn⟩ := h; exact hn
set_option maxHeartbeats 8000000 in
theorem fnLiveIn (w : World) (A0a : Option Addr) (n0a c0a : Nat) (s0a : List Code) (vb : Int) (h0a : Sl CodeR w 0 w.heap.size A0a n0a c0a s0a)  (ib : I64 vb) :
    Calls Tryz.prog 3 #[.agg #[.slice A0a n0a c0a], .int .i64 vb] w (RetB true w) := by
  go_enter Tryz.func3, Tryz.ntmps3
  go_wp2_with fail
  refine (lawsSzImage _ 0 _ A0a n0a c0a s0a (h0a.up (by omega) (by (repeat (first | with_reducible exact Below.refl _ _ | with_reducible assumption | with_reducible refine below_alloc ?_ _ | ((with_reducible refine Below.setCell ?_ ?_ _); rotate_left; (· first | exact Nat.le_refl _ | (simp; done) | (simp; omega))) | with_reducible refine below_drewN ?_ _ | with_reducible refine Below.drew ?_ | with_reducible refine below_then ?_ (by with_reducible assumption))))) (Nat.le_refl _) 1048576 (by omega) (by omega)).mono ?_
  rintro e w1 ⟨ra, rfl, hra, b⟩
  have hb : Below w.heap.size w w1 := by (repeat (first | with_reducible exact Below.refl _ _ | with_reducible assumption | with_reducible refine below_alloc ?_ _ | ((with_reducible refine Below.setCell ?_ ?_ _); rotate_left; (· first | exact Nat.le_refl _ | (simp; done) | (simp; omega))) | with_reducible refine below_drewN ?_ _ | with_reducible refine Below.drew ?_ | with_reducible refine below_then ?_ (by with_reducible assumption)))
  have hz := hb.size
  replace h0a := h0a.below hb (Nat.le_refl _)
  obtain ⟨hcE, hfE⟩ := bcell b
  have ka0 : w1.cell? ⟨w.heap.size, 0, none⟩ = some (.slice A0a n0a c0a) := by simp [hcE, go_sem]
  clear hcE hfE
  have zka : w.heap.size < w1.heap.size := World.block_lt_of_cell? w1 _ ka0
  clear b
  rcases hra with rfl | ⟨qa, ta⟩
  · go_wp2_with fail
    go_ret
    exact RetB.mk rfl hb
  have ma : mszLCode s0a ≤ 1048576 := by omega
  have ua : ra ≤ 1048576 := by omega
  clear ta
  have mm0a : mszLCode s0a ≤ 1048576 := by omega
  have hRes := Lib.hid (show (liveR s0a vb).length ≤ 1099511627776 from Nat.le_trans (liveR_le s0a vb) (by omega))
  have hEq := eqB_true (rfl : liveR s0a vb = liveR s0a vb)
  go_wp2_with fail
  refine (lawsToImage _ 0 _ A0a n0a c0a s0a (h0a.up (by omega) (by (repeat (first | with_reducible exact Below.refl _ _ | with_reducible assumption | with_reducible refine below_alloc ?_ _ | ((with_reducible refine Below.setCell ?_ ?_ _); rotate_left; (· first | exact Nat.le_refl _ | (simp; done) | (simp; omega))) | with_reducible refine below_drewN ?_ _ | with_reducible refine Below.drew ?_ | with_reducible refine below_then ?_ (by with_reducible assumption))))) (Nat.le_refl _) mm0a ).mono ?_
  rintro e w2 ⟨Faq, A0aq, n0aq, c0aq, rfl, oaq, faq, b⟩
  have hx : Below w1.heap.size w1 w2 := by (repeat (first | with_reducible exact Below.refl _ _ | with_reducible assumption | with_reducible refine below_alloc ?_ _ | ((with_reducible refine Below.setCell ?_ ?_ _); rotate_left; (· first | exact Nat.le_refl _ | (simp; done) | (simp; omega))) | with_reducible refine below_drewN ?_ _ | with_reducible refine Below.drew ?_ | with_reducible refine below_then ?_ (by with_reducible assumption)))
  have zw2 := hx.size
  replace hb := below_then hb hx
  replace h0a := h0a.below hx (by omega)
  replace ka0 := below_cell hx ka0
  clear hx
  clear b
  go_wp2_with fail
  refine (specLiveInC _ A0aq n0aq c0aq s0a vb ((Image_sl0 oaq).next (by (repeat (first | with_reducible exact Below.refl _ _ | with_reducible assumption | with_reducible refine below_alloc ?_ _ | ((with_reducible refine Below.setCell ?_ ?_ _); rotate_left; (· first | exact Nat.le_refl _ | (simp; done) | (simp; omega))) | with_reducible refine below_drewN ?_ _ | with_reducible refine Below.drew ?_ | with_reducible refine below_then ?_ (by with_reducible assumption))))) mm0a ib).mono ?_
  rintro e w3 ⟨Aw, nw, cw, rfl, ow, b⟩
  have hx : Below w2.heap.size w2 w3 := by (repeat (first | with_reducible exact Below.refl _ _ | with_reducible assumption | with_reducible refine below_alloc ?_ _ | ((with_reducible refine Below.setCell ?_ ?_ _); rotate_left; (· first | exact Nat.le_refl _ | (simp; done) | (simp; omega))) | with_reducible refine below_drewN ?_ _ | with_reducible refine Below.drew ?_ | with_reducible refine below_then ?_ (by with_reducible assumption)))
  have zw3 := hx.size
  replace hb := below_then hb hx
  replace h0a := h0a.below hx (by omega)
  replace ka0 := below_cell hx ka0
  clear hx
  clear b
  clear oaq faq
  go_wp2_with fail
  refine (lawsToImage _ 0 _ A0a n0a c0a s0a (h0a.up (by omega) (by (repeat (first | with_reducible exact Below.refl _ _ | with_reducible assumption | with_reducible refine below_alloc ?_ _ | ((with_reducible refine Below.setCell ?_ ?_ _); rotate_left; (· first | exact Nat.le_refl _ | (simp; done) | (simp; omega))) | with_reducible refine below_drewN ?_ _ | with_reducible refine Below.drew ?_ | with_reducible refine below_then ?_ (by with_reducible assumption))))) (Nat.le_refl _) mm0a ).mono ?_
  rintro e w4 ⟨Fax, A0ax, n0ax, c0ax, rfl, oax, fax, b⟩
  have hx : Below w3.heap.size w3 w4 := by (repeat (first | with_reducible exact Below.refl _ _ | with_reducible assumption | with_reducible refine below_alloc ?_ _ | ((with_reducible refine Below.setCell ?_ ?_ _); rotate_left; (· first | exact Nat.le_refl _ | (simp; done) | (simp; omega))) | with_reducible refine below_drewN ?_ _ | with_reducible refine Below.drew ?_ | with_reducible refine below_then ?_ (by with_reducible assumption)))
  have zw4 := hx.size
  replace hb := below_then hb hx
  replace h0a := h0a.below hx (by omega)
  replace ow := ow.below hx (by omega)
  replace ka0 := below_cell hx ka0
  clear hx
  clear b
  have Lax : ∀ k, k ∈ Fax → k < w4.heap.size := ImageR.ownLt oax
  obtain ⟨F0ax, hF0ax⟩ : ∃ F, F = Fax := ⟨_, rfl⟩
  have o0ax : OwnSl CodeR _ 69 Fax (.slice A0ax n0ax c0ax) s0a := own_of1 oax
  rw [← hF0ax] at fax Lax o0ax
  clear oax hF0ax
  have ndax := ownsl_nodup o0ax
  have f0ax : ∀ k, k ∈ F0ax → _ ≤ k := fun k hk => fax k hk
  have L0ax : ∀ k, k ∈ F0ax → k < w4.heap.size := fun k hk => Lax k hk
  go_wp2_with fail
  refine (implLiveInC _ A0ax n0ax c0ax s0a vb (o0ax.sl.next (by (repeat (first | with_reducible exact Below.refl _ _ | with_reducible assumption | with_reducible refine below_alloc ?_ _ | ((with_reducible refine Below.setCell ?_ ?_ _); rotate_left; (· first | exact Nat.le_refl _ | (simp; done) | (simp; omega))) | with_reducible refine below_drewN ?_ _ | with_reducible refine Below.drew ?_ | with_reducible refine below_then ?_ (by with_reducible assumption))))) mm0a ib).mono ?_
  rintro e w5 ⟨Fg, Ag, ng, cg, rfl, og, fg, b⟩
  have hx : Below w4.heap.size w4 w5 := by (repeat (first | with_reducible exact Below.refl _ _ | with_reducible assumption | with_reducible refine below_alloc ?_ _ | ((with_reducible refine Below.setCell ?_ ?_ _); rotate_left; (· first | exact Nat.le_refl _ | (simp; done) | (simp; omega))) | with_reducible refine below_drewN ?_ _ | with_reducible refine Below.drew ?_ | with_reducible refine below_then ?_ (by with_reducible assumption)))
  have zw5 := hx.size
  replace hb := below_then hb hx
  replace h0a := h0a.below hx (by omega)
  replace ow := ow.below hx (by omega)
  replace o0ax := o0ax.below hx
  replace ka0 := below_cell hx ka0
  obtain ⟨hcE, hfE⟩ := bcell b
  have ja0 : w5.cell? ⟨w4.heap.size, 0, none⟩ = some (.slice A0ax n0ax c0ax) := by simp [hcE, go_sem]
  clear hcE hfE
  have zja : w4.heap.size < w5.heap.size := World.block_lt_of_cell? w5 _ ja0
  clear hx
  clear b
  replace fg : ∀ k, k ∈ Fg → w4.heap.size ≤ k := fun k hk => by have := fg k hk; first | omega | (simp at this; omega)
  have Lg := og.lt
  go_wp2_with fail
  refine (lawsEqBoolS _ 0 _ 0 _ ng nw cg cw Ag Aw _ _ og.sl (ow.more (Nat.le_refl _) (by omega)) (Nat.le_refl _) (Nat.le_refl _)).mono ?_
  rintro e w6 ⟨rfl, b⟩
  have hx : Below w5.heap.size w5 w6 := by (repeat (first | with_reducible exact Below.refl _ _ | with_reducible assumption | with_reducible refine below_alloc ?_ _ | ((with_reducible refine Below.setCell ?_ ?_ _); rotate_left; (· first | exact Nat.le_refl _ | (simp; done) | (simp; omega))) | with_reducible refine below_drewN ?_ _ | with_reducible refine Below.drew ?_ | with_reducible refine below_then ?_ (by with_reducible assumption)))
  have zw6 := hx.size
  replace hb := below_then hb hx
  replace h0a := h0a.below hx (by omega)
  replace ow := ow.below hx (by omega)
  replace o0ax := o0ax.below hx
  replace og := og.below hx
  replace ka0 := below_cell hx ka0
  replace ja0 := below_cell hx ja0
  clear hx
  clear b
  have hE := eqB_true (rfl : s0a = s0a)
  go_wp2_with fail
  go_region_held3 (fun W => W.cell? ⟨w.heap.size, 0, none⟩ = some (.slice A0a n0a c0a) ∧ W.cell? ⟨w4.heap.size, 0, none⟩ = some (.slice A0ax n0ax c0ax))
    (first | exact ⟨ka0, ja0⟩ | exact ⟨below_cell bw7 ka0, below_cell bw7 ja0⟩ | exact ⟨below_cell bw8 (below_cell bw7 ka0), below_cell bw8 (below_cell bw7 ja0)⟩)
    (first | (go_at_call 10; ((with_reducible refine (lawsToImage _ 0 _ A0a n0a c0a s0a (h0a.up (by omega) (by (repeat (first | with_reducible exact Below.refl _ _ | with_reducible assumption | with_reducible refine below_alloc ?_ _ | ((with_reducible refine Below.setCell ?_ ?_ _); rotate_left; (· first | exact Nat.le_refl _ | (simp; done) | (simp; omega))) | with_reducible refine below_drewN ?_ _ | with_reducible refine Below.drew ?_ | with_reducible refine below_then ?_ (by with_reducible assumption))))) (Nat.le_refl _) mm0a ).mono ?_); rintro e w7 ⟨Fay, A0ay, n0ay, c0ay, rfl, oay, fay, bw7⟩)) | (go_at_call 13; ((with_reducible refine (lawsEqImage _ 0 _ 0 _ A0ax n0ax c0ax s0a A0ay n0ay c0ay s0a (o0ax.sl.next (by (repeat (first | with_reducible exact Below.refl _ _ | with_reducible assumption | with_reducible refine below_alloc ?_ _ | ((with_reducible refine Below.setCell ?_ ?_ _); rotate_left; (· first | exact Nat.le_refl _ | (simp; done) | (simp; omega))) | with_reducible refine below_drewN ?_ _ | with_reducible refine Below.drew ?_ | with_reducible refine below_then ?_ (by with_reducible assumption))))) ((Image_sl0 oay).next (by (repeat (first | with_reducible exact Below.refl _ _ | with_reducible assumption | with_reducible refine below_alloc ?_ _ | ((with_reducible refine Below.setCell ?_ ?_ _); rotate_left; (· first | exact Nat.le_refl _ | (simp; done) | (simp; omega))) | with_reducible refine below_drewN ?_ _ | with_reducible refine Below.drew ?_ | with_reducible refine below_then ?_ (by with_reducible assumption))))) (Nat.le_refl _) (Nat.le_refl _)).mono ?_); rintro e w8 ⟨rfl, bw8⟩)))
  have hx : Below w6.heap.size w6 w8 := by (repeat (first | with_reducible exact Below.refl _ _ | with_reducible assumption | with_reducible refine below_alloc ?_ _ | ((with_reducible refine Below.setCell ?_ ?_ _); rotate_left; (· first | exact Nat.le_refl _ | (simp; done) | (simp; omega))) | with_reducible refine below_drewN ?_ _ | with_reducible refine Below.drew ?_ | with_reducible refine below_then ?_ (by with_reducible assumption)))
  have zw8 := hx.size
  replace hb := below_then hb hx
  replace h0a := h0a.below hx (by omega)
  replace ow := ow.below hx (by omega)
  replace o0ax := o0ax.below hx
  replace og := og.below hx
  replace ka0 := below_cell hx ka0
  replace ja0 := below_cell hx ja0
  clear hx
  clear bw8 bw7 oay fay hE
  go_wp2_with fail
  have ct0 := cntCode_le s0a
  refine (mkImageTop _ A0ax n0ax c0ax s0a 1 F0ax o0ax ndax (by omega) (by omega)).mono ?_
  rintro e w9 ⟨rax, rfl, qr, om0, hf⟩
  clear om0
  have hr0ax : 0 ≤ rax := by omega
  have hr1ax : rax ≤ 1099511627776 := by omega
  clear qr
  clear ct0
  have zw9 := hf.size
  replace hb := below_fr hb hf (fun k hk => by have := fax k hk; omega)
  replace h0a := h0a.fr hf (by omega) (fun k hk => Or.inr (by have := fax k hk; omega))
  replace ow := ow.fr hf (by omega) (fun k hk => Or.inr (by have := fax k hk; omega))
  replace og := og.fr hf (fun k hk hk' => by have := fg k hk; have := Lg k hk; have := fax k hk'; have := Lax k hk'; omega)
  replace ka0 := cell_fr hf (fun hk => by have := fax _ hk; omega) ka0
  replace ja0 := cell_fr hf (fun hk => by have := fax _ hk; have := Lax _ hk; omega) ja0
  clear hf
  clear zja ja0
  go_wp2_with fail
  refine (lawsEqBoolS _ 0 _ 0 _ ng nw cg cw Ag Aw _ _ og.sl (ow.more (Nat.le_refl _) (by omega)) (Nat.le_refl _) (Nat.le_refl _)).mono ?_
  rintro e w10 ⟨rfl, b⟩
  have hx : Below w9.heap.size w9 w10 := by (repeat (first | with_reducible exact Below.refl _ _ | with_reducible assumption | with_reducible refine below_alloc ?_ _ | ((with_reducible refine Below.setCell ?_ ?_ _); rotate_left; (· first | exact Nat.le_refl _ | (simp; done) | (simp; omega))) | with_reducible refine below_drewN ?_ _ | with_reducible refine Below.drew ?_ | with_reducible refine below_then ?_ (by with_reducible assumption)))
  have zw10 := hx.size
  replace hb := below_then hb hx
  replace h0a := h0a.below hx (by omega)
  replace ow := ow.below hx (by omega)
  replace og := og.below hx
  replace ka0 := below_cell hx ka0
  clear hx
  clear b
  have ct := cntBool_le (liveR s0a vb)
  have ct2 : cntL cntBool (liveR s0a vb) ≤ 17592186044416 := by have := hRes.out; omega
  clear ct
  go_wp2_with fail
  refine (mkBools _ ng cg Ag Fg _ 1 og (by omega) (by omega)).mono ?_
  rintro e w11 ⟨rm, rfl, qm, om, hf⟩
  have zw11 := hf.size
  replace hb := below_fr hb hf (fun k hk => by have := fg k hk; omega)
  replace h0a := h0a.fr hf (by omega) (fun k hk => Or.inr (by have := fg k hk; omega))
  replace ow := ow.fr hf (by omega) (fun k hk => Or.inr (by have := fg k hk; omega))
  replace ka0 := cell_fr hf (fun hk => by have := fg _ hk; omega) ka0
  clear hf og
  have og := om
  clear om
  have pm : 0 ≤ rm := by omega
  replace qm := Lib.hid qm
  go_wp2_with fail
  refine (hdBools _ 0 _ ng cg Ag _ 1 og.sl (Nat.le_refl _) (by omega) (by omega)).mono ?_
  rintro e w12 ⟨rh, rfl, qh, b⟩
  have hx : Below w11.heap.size w11 w12 := by (repeat (first | with_reducible exact Below.refl _ _ | with_reducible assumption | with_reducible refine below_alloc ?_ _ | ((with_reducible refine Below.setCell ?_ ?_ _); rotate_left; (· first | exact Nat.le_refl _ | (simp; done) | (simp; omega))) | with_reducible refine below_drewN ?_ _ | with_reducible refine Below.drew ?_ | with_reducible refine below_then ?_ (by with_reducible assumption)))
  have zw12 := hx.size
  replace hb := below_then hb hx
  replace h0a := h0a.below hx (by omega)
  replace ow := ow.below hx (by omega)
  replace og := og.below hx
  replace ka0 := below_cell hx ka0
  clear hx
  clear b
  obtain rfl : rm = rh := qm.out.trans qh.symm
  clear qh
  go_wp2_with fail
  refine (lawsToImage _ 0 _ A0a n0a c0a s0a (h0a.up (by omega) (by (repeat (first | with_reducible exact Below.refl _ _ | with_reducible assumption | with_reducible refine below_alloc ?_ _ | ((with_reducible refine Below.setCell ?_ ?_ _); rotate_left; (· first | exact Nat.le_refl _ | (simp; done) | (simp; omega))) | with_reducible refine below_drewN ?_ _ | with_reducible refine Below.drew ?_ | with_reducible refine below_then ?_ (by with_reducible assumption))))) (Nat.le_refl _) mm0a ).mono ?_
  rintro e w13 ⟨Faz, A0az, n0az, c0az, rfl, oaz, faz, b⟩
  have hx : Below w12.heap.size w12 w13 := by (repeat (first | with_reducible exact Below.refl _ _ | with_reducible assumption | with_reducible refine below_alloc ?_ _ | ((with_reducible refine Below.setCell ?_ ?_ _); rotate_left; (· first | exact Nat.le_refl _ | (simp; done) | (simp; omega))) | with_reducible refine below_drewN ?_ _ | with_reducible refine Below.drew ?_ | with_reducible refine below_then ?_ (by with_reducible assumption)))
  have zw13 := hx.size
  replace hb := below_then hb hx
  replace h0a := h0a.below hx (by omega)
  replace ow := ow.below hx (by omega)
  replace og := og.below hx
  replace ka0 := below_cell hx ka0
  clear hx
  clear b
  go_wp2_with fail
  refine (implLiveInC _ A0az n0az c0az s0a vb ((Image_sl0 oaz).next (by (repeat (first | with_reducible exact Below.refl _ _ | with_reducible assumption | with_reducible refine below_alloc ?_ _ | ((with_reducible refine Below.setCell ?_ ?_ _); rotate_left; (· first | exact Nat.le_refl _ | (simp; done) | (simp; omega))) | with_reducible refine below_drewN ?_ _ | with_reducible refine Below.drew ?_ | with_reducible refine below_then ?_ (by with_reducible assumption))))) mm0a ib).mono ?_
  rintro e w14 ⟨Fh, Ah, nh, ch, rfl, oh, fh, b⟩
  have hx : Below w13.heap.size w13 w14 := by (repeat (first | with_reducible exact Below.refl _ _ | with_reducible assumption | with_reducible refine below_alloc ?_ _ | ((with_reducible refine Below.setCell ?_ ?_ _); rotate_left; (· first | exact Nat.le_refl _ | (simp; done) | (simp; omega))) | with_reducible refine below_drewN ?_ _ | with_reducible refine Below.drew ?_ | with_reducible refine below_then ?_ (by with_reducible assumption)))
  have zw14 := hx.size
  replace hb := below_then hb hx
  replace h0a := h0a.below hx (by omega)
  replace ow := ow.below hx (by omega)
  replace og := og.below hx
  replace ka0 := below_cell hx ka0
  clear hx
  clear b
  clear oaz faz
  go_wp2_with fail
  refine (lawsEqBoolS _ 0 _ 0 _ nh nw ch cw Ah Aw _ _ oh.sl (ow.more (Nat.le_refl _) (by omega)) (Nat.le_refl _) (Nat.le_refl _)).mono ?_
  rintro e w15 ⟨rfl, b⟩
  have hx : Below w14.heap.size w14 w15 := by (repeat (first | with_reducible exact Below.refl _ _ | with_reducible assumption | with_reducible refine below_alloc ?_ _ | ((with_reducible refine Below.setCell ?_ ?_ _); rotate_left; (· first | exact Nat.le_refl _ | (simp; done) | (simp; omega))) | with_reducible refine below_drewN ?_ _ | with_reducible refine Below.drew ?_ | with_reducible refine below_then ?_ (by with_reducible assumption)))
  have zw15 := hx.size
  replace hb := below_then hb hx
  replace h0a := h0a.below hx (by omega)
  replace ow := ow.below hx (by omega)
  replace og := og.below hx
  replace oh := oh.below hx
  replace ka0 := below_cell hx ka0
  clear hx
  clear b
  clear oh fh
  go_wp2_with fail
  refine (hdBools _ 0 _ ng cg Ag _ 1 og.sl (Nat.le_refl _) (by omega) (by omega)).mono ?_
  rintro e w16 ⟨rh, rfl, qh, b⟩
  have hx : Below w15.heap.size w15 w16 := by (repeat (first | with_reducible exact Below.refl _ _ | with_reducible assumption | with_reducible refine below_alloc ?_ _ | ((with_reducible refine Below.setCell ?_ ?_ _); rotate_left; (· first | exact Nat.le_refl _ | (simp; done) | (simp; omega))) | with_reducible refine below_drewN ?_ _ | with_reducible refine Below.drew ?_ | with_reducible refine below_then ?_ (by with_reducible assumption)))
  have zw16 := hx.size
  replace hb := below_then hb hx
  replace h0a := h0a.below hx (by omega)
  replace ow := ow.below hx (by omega)
  replace og := og.below hx
  replace ka0 := below_cell hx ka0
  clear hx
  clear b
  obtain rfl : rm = rh := qm.out.trans qh.symm
  clear qh
  go_wp2_with fail
  go_ret
  exact RetB.mk rfl hb

theorem fnLiveInA (w : World) (csa : Array Value) (ea : Image) (hla : ImageR.rel w 0 w.heap.size csa.toList ea) (vb : Int) (ib : I64 vb) :
    Calls Tryz.prog 3 #[.agg csa, .int .i64 vb] w (RetB true w) := by
  obtain ⟨A0a, n0a, c0a, s0a, hca, hea, h0a⟩ := Image_rel hla
  obtain ⟨csa⟩ := csa
  simp only at hca
  subst hca hea
  exact fnLiveIn w A0a n0a c0a ea vb h0a  ib

end Go.Proofs.YthdpkcmeepabjaaGreat
