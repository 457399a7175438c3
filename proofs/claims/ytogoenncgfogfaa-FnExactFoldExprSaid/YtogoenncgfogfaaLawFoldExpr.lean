/- For every list of tokens the program's FoldExpr returns what the reference's returns: FnExactFoldExpr returns true, and its argument reads as it did. No condition beyond the row's own. -/
import Derived.Test.YtogoenncgfogfaaFoldE
import Derived.Test.YtogoenncgfogfaaMkPg
import Derived.Test.YtogoenncgfogfaaKit1
import Derived.Deep.RegionHeld3
set_option linter.unusedVariables false
set_option linter.unusedSimpArgs false
set_option maxRecDepth 100000
namespace Go.Proofs.Ytogoenncgfogfaa
open Go.ChangeShapes Go.WideShapes Go.ChangeAt Go.RowKit
open Go.ChangeMaps (open_string)

set_option maxHeartbeats 8000000 in
theorem fnFoldExpr (w : World) (Aa : Option Addr) (na ca : Nat) (la : List Tok) (ha : Sl TokR w 0 w.heap.size Aa na ca la) :
    Calls Try.prog 5 #[.slice Aa na ca] w (RetB true w) := by
  have e1a := Lib.hid ha.lenEq
  go_enter Try.func5, Try.ntmps5
  have hb : Below w.heap.size w w := Below.refl _ _
  have hz := hb.size
  go_wp2_with fail
  refine (lawsSzTokS _ na ca Aa 1048576 (by omega) (by omega) ha.lenLe).mono ?_
  rintro e w1 ⟨ra, rfl, hra, b⟩
  have hx : Below w.heap.size w w1 := by (repeat (first | with_reducible exact Below.refl _ _ | with_reducible assumption | with_reducible refine below_alloc ?_ _ | ((with_reducible refine Below.setCell ?_ ?_ _); rotate_left; (· first | exact Nat.le_refl _ | (simp; done) | (simp; omega))) | with_reducible refine below_drewN ?_ _ | with_reducible refine Below.drew ?_ | with_reducible refine below_then ?_ (by with_reducible assumption)))
  have zw1 := hx.size
  replace hb := below_then hb hx
  replace ha := ha.below hx (by omega)
  clear hx
  clear b
  rcases hra with rfl | ⟨qa, ta⟩
  · go_wp2_with fail
    go_ret
    exact RetB.mk rfl hb
  have ma : na ≤ 1048576 := by omega
  have ua : ra ≤ 1048576 := by omega
  clear ta
  have hRes := Lib.hid (show (foldR la).length ≤ 1099511627776 from Nat.le_trans (foldR_len _) (by have := e1a.out; omega))
  have hEq := eqB_true (rfl : foldR la = foldR la)
  go_wp2_with fail
  refine (lawsToTokS _ 0 _ na ca Aa la (ha.up (by omega) (by (repeat (first | with_reducible exact Below.refl _ _ | with_reducible assumption | with_reducible refine below_alloc ?_ _ | ((with_reducible refine Below.setCell ?_ ?_ _); rotate_left; (· first | exact Nat.le_refl _ | (simp; done) | (simp; omega))) | with_reducible refine below_drewN ?_ _ | with_reducible refine Below.drew ?_ | with_reducible refine below_then ?_ (by with_reducible assumption))))) (Nat.le_refl _) ma).mono ?_
  rintro e w2 ⟨Faq, Aaq, naq, caq, rfl, oaq, faq, b⟩
  have hx : Below w1.heap.size w1 w2 := by (repeat (first | with_reducible exact Below.refl _ _ | with_reducible assumption | with_reducible refine below_alloc ?_ _ | ((with_reducible refine Below.setCell ?_ ?_ _); rotate_left; (· first | exact Nat.le_refl _ | (simp; done) | (simp; omega))) | with_reducible refine below_drewN ?_ _ | with_reducible refine Below.drew ?_ | with_reducible refine below_then ?_ (by with_reducible assumption)))
  have zw2 := hx.size
  replace hb := below_then hb hx
  replace ha := ha.below hx (by omega)
  clear hx
  clear b
  go_wp2_with fail
  refine (specFoldExprC _ Aaq naq caq la ((oaq.sl).next (by (repeat (first | with_reducible exact Below.refl _ _ | with_reducible assumption | with_reducible refine below_alloc ?_ _ | ((with_reducible refine Below.setCell ?_ ?_ _); rotate_left; (· first | exact Nat.le_refl _ | (simp; done) | (simp; omega))) | with_reducible refine below_drewN ?_ _ | with_reducible refine Below.drew ?_ | with_reducible refine below_then ?_ (by with_reducible assumption))))) (by rw [e1a.out]; exact ma)).mono ?_
  rintro e w3 ⟨Aw, nw, cw, rfl, ow, b⟩
  have hx : Below w2.heap.size w2 w3 := by (repeat (first | with_reducible exact Below.refl _ _ | with_reducible assumption | with_reducible refine below_alloc ?_ _ | ((with_reducible refine Below.setCell ?_ ?_ _); rotate_left; (· first | exact Nat.le_refl _ | (simp; done) | (simp; omega))) | with_reducible refine below_drewN ?_ _ | with_reducible refine Below.drew ?_ | with_reducible refine below_then ?_ (by with_reducible assumption)))
  have zw3 := hx.size
  replace hb := below_then hb hx
  replace ha := ha.below hx (by omega)
  replace oaq := oaq.below hx
  clear hx
  clear b
  clear oaq faq
  go_wp2_with fail
  refine (lawsToTokS _ 0 _ na ca Aa la (ha.up (by omega) (by (repeat (first | with_reducible exact Below.refl _ _ | with_reducible assumption | with_reducible refine below_alloc ?_ _ | ((with_reducible refine Below.setCell ?_ ?_ _); rotate_left; (· first | exact Nat.le_refl _ | (simp; done) | (simp; omega))) | with_reducible refine below_drewN ?_ _ | with_reducible refine Below.drew ?_ | with_reducible refine below_then ?_ (by with_reducible assumption))))) (Nat.le_refl _) ma).mono ?_
  rintro e w4 ⟨Fax, Aax, nax, cax, rfl, oax, fax, b⟩
  have hx : Below w3.heap.size w3 w4 := by (repeat (first | with_reducible exact Below.refl _ _ | with_reducible assumption | with_reducible refine below_alloc ?_ _ | ((with_reducible refine Below.setCell ?_ ?_ _); rotate_left; (· first | exact Nat.le_refl _ | (simp; done) | (simp; omega))) | with_reducible refine below_drewN ?_ _ | with_reducible refine Below.drew ?_ | with_reducible refine below_then ?_ (by with_reducible assumption)))
  have zw4 := hx.size
  replace hb := below_then hb hx
  replace ha := ha.below hx (by omega)
  replace ow := ow.below hx (by omega)
  clear hx
  clear b
  have Lax : ∀ k, k ∈ Fax → k < w4.heap.size := oax.lt
  go_wp2_with fail
  refine (implFoldExprC _ Aax nax cax la (oax.sl.next (by (repeat (first | with_reducible exact Below.refl _ _ | with_reducible assumption | with_reducible refine below_alloc ?_ _ | ((with_reducible refine Below.setCell ?_ ?_ _); rotate_left; (· first | exact Nat.le_refl _ | (simp; done) | (simp; omega))) | with_reducible refine below_drewN ?_ _ | with_reducible refine Below.drew ?_ | with_reducible refine below_then ?_ (by with_reducible assumption))))) (by rw [e1a.out]; exact ma)).mono ?_
  rintro e w5 ⟨Fg, Ag, ng, cg, rfl, og, fg, b⟩
  have hx : Below w4.heap.size w4 w5 := by (repeat (first | with_reducible exact Below.refl _ _ | with_reducible assumption | with_reducible refine below_alloc ?_ _ | ((with_reducible refine Below.setCell ?_ ?_ _); rotate_left; (· first | exact Nat.le_refl _ | (simp; done) | (simp; omega))) | with_reducible refine below_drewN ?_ _ | with_reducible refine Below.drew ?_ | with_reducible refine below_then ?_ (by with_reducible assumption)))
  have zw5 := hx.size
  replace hb := below_then hb hx
  replace ha := ha.below hx (by omega)
  replace ow := ow.below hx (by omega)
  replace oax := oax.below hx
  clear hx
  clear b
  replace fg : ∀ k, k ∈ Fg → w4.heap.size ≤ k := fun k hk => by have := fg k hk; first | omega | (simp at this; omega)
  have Lg := og.lt
  go_wp2_with fail
  refine (lawsEqTokS _ 0 _ 0 _ ng nw cg cw Ag Aw _ _ og.sl (ow.more (Nat.le_refl _) (by omega)) (Nat.le_refl _) (Nat.le_refl _)).mono ?_
  rintro e w6 ⟨rfl, b⟩
  have hx : Below w5.heap.size w5 w6 := by (repeat (first | with_reducible exact Below.refl _ _ | with_reducible assumption | with_reducible refine below_alloc ?_ _ | ((with_reducible refine Below.setCell ?_ ?_ _); rotate_left; (· first | exact Nat.le_refl _ | (simp; done) | (simp; omega))) | with_reducible refine below_drewN ?_ _ | with_reducible refine Below.drew ?_ | with_reducible refine below_then ?_ (by with_reducible assumption)))
  have zw6 := hx.size
  replace hb := below_then hb hx
  replace ha := ha.below hx (by omega)
  replace ow := ow.below hx (by omega)
  replace oax := oax.below hx
  replace og := og.below hx
  clear hx
  clear b
  go_wp2_with fail
  refine (lawsToTokS _ 0 _ na ca Aa la (ha.up (by omega) (by (repeat (first | with_reducible exact Below.refl _ _ | with_reducible assumption | with_reducible refine below_alloc ?_ _ | ((with_reducible refine Below.setCell ?_ ?_ _); rotate_left; (· first | exact Nat.le_refl _ | (simp; done) | (simp; omega))) | with_reducible refine below_drewN ?_ _ | with_reducible refine Below.drew ?_ | with_reducible refine below_then ?_ (by with_reducible assumption))))) (Nat.le_refl _) ma).mono ?_
  rintro e w7 ⟨Fay, Aay, nay, cay, rfl, oay, fay, b⟩
  have hx : Below w6.heap.size w6 w7 := by (repeat (first | with_reducible exact Below.refl _ _ | with_reducible assumption | with_reducible refine below_alloc ?_ _ | ((with_reducible refine Below.setCell ?_ ?_ _); rotate_left; (· first | exact Nat.le_refl _ | (simp; done) | (simp; omega))) | with_reducible refine below_drewN ?_ _ | with_reducible refine Below.drew ?_ | with_reducible refine below_then ?_ (by with_reducible assumption)))
  have zw7 := hx.size
  replace hb := below_then hb hx
  replace ha := ha.below hx (by omega)
  replace ow := ow.below hx (by omega)
  replace oax := oax.below hx
  replace og := og.below hx
  clear hx
  clear b
  have hE := eqB_true (rfl : la = la)
  go_wp2_with fail
  refine (lawsEqTokS _ 0 _ 0 _ nax nay cax cay Aax Aay _ _ oax.sl oay.sl (Nat.le_refl _) (Nat.le_refl _)).mono ?_
  rintro e w8 ⟨rfl, b⟩
  have hx : Below w7.heap.size w7 w8 := by (repeat (first | with_reducible exact Below.refl _ _ | with_reducible assumption | with_reducible refine below_alloc ?_ _ | ((with_reducible refine Below.setCell ?_ ?_ _); rotate_left; (· first | exact Nat.le_refl _ | (simp; done) | (simp; omega))) | with_reducible refine below_drewN ?_ _ | with_reducible refine Below.drew ?_ | with_reducible refine below_then ?_ (by with_reducible assumption)))
  have zw8 := hx.size
  replace hb := below_then hb hx
  replace ha := ha.below hx (by omega)
  replace ow := ow.below hx (by omega)
  replace oax := oax.below hx
  replace og := og.below hx
  replace oay := oay.below hx
  clear hx
  clear b
  clear oay fay
  go_wp2_with fail
  have ct := cntTok_le la
  rw [e1a.out] at ct
  refine (mkToks _ nax cax Aax Fax la 1 oax (by omega) (by omega)).mono ?_
  rintro e w9 ⟨rax, rfl, qr, om, hf⟩
  clear om
  have hr0ax : 0 ≤ rax := by omega
  have hr1ax : rax ≤ 1099511627776 := by omega
  clear qr
  clear ct
  have zw9 := hf.size
  replace hb := below_fr hb hf (fun k hk => by have := fax k hk; omega)
  replace ha := ha.fr hf (by omega) (fun k hk => Or.inr (by have := fax k hk; omega))
  replace ow := ow.fr hf (by omega) (fun k hk => Or.inr (by have := fax k hk; omega))
  replace og := og.fr hf (fun k hk hk' => by have := fg k hk; have := Lg k hk; have := fax k hk'; have := Lax k hk'; omega)
  clear hf
  go_wp2_with fail
  refine (lawsEqTokS _ 0 _ 0 _ ng nw cg cw Ag Aw _ _ og.sl (ow.more (Nat.le_refl _) (by omega)) (Nat.le_refl _) (Nat.le_refl _)).mono ?_
  rintro e w10 ⟨rfl, b⟩
  have hx : Below w9.heap.size w9 w10 := by (repeat (first | with_reducible exact Below.refl _ _ | with_reducible assumption | with_reducible refine below_alloc ?_ _ | ((with_reducible refine Below.setCell ?_ ?_ _); rotate_left; (· first | exact Nat.le_refl _ | (simp; done) | (simp; omega))) | with_reducible refine below_drewN ?_ _ | with_reducible refine Below.drew ?_ | with_reducible refine below_then ?_ (by with_reducible assumption)))
  have zw10 := hx.size
  replace hb := below_then hb hx
  replace ha := ha.below hx (by omega)
  replace ow := ow.below hx (by omega)
  replace og := og.below hx
  clear hx
  clear b
  have ct := cntTok_le (foldR la)
  have ct2 : cntL cntTok (foldR la) ≤ 17592186044416 := by have := hRes.out; omega
  clear ct
  go_wp2_with fail
  refine (mkToks _ ng cg Ag Fg _ 1 og (by omega) (by omega)).mono ?_
  rintro e w11 ⟨rm, rfl, qm, om, hf⟩
  have zw11 := hf.size
  replace hb := below_fr hb hf (fun k hk => by have := fg k hk; omega)
  replace ha := ha.fr hf (by omega) (fun k hk => Or.inr (by have := fg k hk; omega))
  replace ow := ow.fr hf (by omega) (fun k hk => Or.inr (by have := fg k hk; omega))
  clear hf og
  have og := om
  clear om
  have pm : 0 ≤ rm := by omega
  replace qm := Lib.hid qm
  go_wp2_with fail
  refine (hdToks _ 0 _ ng cg Ag _ 1 og.sl (Nat.le_refl _) (by omega) (by omega)).mono ?_
  rintro e w12 ⟨rh, rfl, qh, b⟩
  have hx : Below w11.heap.size w11 w12 := by (repeat (first | with_reducible exact Below.refl _ _ | with_reducible assumption | with_reducible refine below_alloc ?_ _ | ((with_reducible refine Below.setCell ?_ ?_ _); rotate_left; (· first | exact Nat.le_refl _ | (simp; done) | (simp; omega))) | with_reducible refine below_drewN ?_ _ | with_reducible refine Below.drew ?_ | with_reducible refine below_then ?_ (by with_reducible assumption)))
  have zw12 := hx.size
  replace hb := below_then hb hx
  replace ha := ha.below hx (by omega)
  replace ow := ow.below hx (by omega)
  replace og := og.below hx
  clear hx
  clear b
  obtain rfl : rm = rh := qm.out.trans qh.symm
  clear qh
  go_wp2_with fail
  refine (lawsToTokS _ 0 _ na ca Aa la (ha.up (by omega) (by (repeat (first | with_reducible exact Below.refl _ _ | with_reducible assumption | with_reducible refine below_alloc ?_ _ | ((with_reducible refine Below.setCell ?_ ?_ _); rotate_left; (· first | exact Nat.le_refl _ | (simp; done) | (simp; omega))) | with_reducible refine below_drewN ?_ _ | with_reducible refine Below.drew ?_ | with_reducible refine below_then ?_ (by with_reducible assumption))))) (Nat.le_refl _) ma).mono ?_
  rintro e w13 ⟨Faz, Aaz, naz, caz, rfl, oaz, faz, b⟩
  have hx : Below w12.heap.size w12 w13 := by (repeat (first | with_reducible exact Below.refl _ _ | with_reducible assumption | with_reducible refine below_alloc ?_ _ | ((with_reducible refine Below.setCell ?_ ?_ _); rotate_left; (· first | exact Nat.le_refl _ | (simp; done) | (simp; omega))) | with_reducible refine below_drewN ?_ _ | with_reducible refine Below.drew ?_ | with_reducible refine below_then ?_ (by with_reducible assumption)))
  have zw13 := hx.size
  replace hb := below_then hb hx
  replace ha := ha.below hx (by omega)
  replace ow := ow.below hx (by omega)
  replace og := og.below hx
  clear hx
  clear b
  go_wp2_with fail
  refine (implFoldExprC _ Aaz naz caz la ((oaz.sl).next (by (repeat (first | with_reducible exact Below.refl _ _ | with_reducible assumption | with_reducible refine below_alloc ?_ _ | ((with_reducible refine Below.setCell ?_ ?_ _); rotate_left; (· first | exact Nat.le_refl _ | (simp; done) | (simp; omega))) | with_reducible refine below_drewN ?_ _ | with_reducible refine Below.drew ?_ | with_reducible refine below_then ?_ (by with_reducible assumption))))) (by rw [e1a.out]; exact ma)).mono ?_
  rintro e w14 ⟨Fh, Ah, nh, ch, rfl, oh, fh, b⟩
  have hx : Below w13.heap.size w13 w14 := by (repeat (first | with_reducible exact Below.refl _ _ | with_reducible assumption | with_reducible refine below_alloc ?_ _ | ((with_reducible refine Below.setCell ?_ ?_ _); rotate_left; (· first | exact Nat.le_refl _ | (simp; done) | (simp; omega))) | with_reducible refine below_drewN ?_ _ | with_reducible refine Below.drew ?_ | with_reducible refine below_then ?_ (by with_reducible assumption)))
  have zw14 := hx.size
  replace hb := below_then hb hx
  replace ha := ha.below hx (by omega)
  replace ow := ow.below hx (by omega)
  replace og := og.below hx
  replace oaz := oaz.below hx
  clear hx
  clear b
  clear oaz faz
  go_wp2_with fail
  refine (lawsEqTokS _ 0 _ 0 _ nh nw ch cw Ah Aw _ _ oh.sl (ow.more (Nat.le_refl _) (by omega)) (Nat.le_refl _) (Nat.le_refl _)).mono ?_
  rintro e w15 ⟨rfl, b⟩
  have hx : Below w14.heap.size w14 w15 := by (repeat (first | with_reducible exact Below.refl _ _ | with_reducible assumption | with_reducible refine below_alloc ?_ _ | ((with_reducible refine Below.setCell ?_ ?_ _); rotate_left; (· first | exact Nat.le_refl _ | (simp; done) | (simp; omega))) | with_reducible refine below_drewN ?_ _ | with_reducible refine Below.drew ?_ | with_reducible refine below_then ?_ (by with_reducible assumption)))
  have zw15 := hx.size
  replace hb := below_then hb hx
  replace ha := ha.below hx (by omega)
  replace ow := ow.below hx (by omega)
  replace og := og.below hx
  replace oh := oh.below hx
  clear hx
  clear b
  clear oh fh
  go_wp2_with fail
  refine (hdToks _ 0 _ ng cg Ag _ 1 og.sl (Nat.le_refl _) (by omega) (by omega)).mono ?_
  rintro e w16 ⟨rh, rfl, qh, b⟩
  have hx : Below w15.heap.size w15 w16 := by (repeat (first | with_reducible exact Below.refl _ _ | with_reducible assumption | with_reducible refine below_alloc ?_ _ | ((with_reducible refine Below.setCell ?_ ?_ _); rotate_left; (· first | exact Nat.le_refl _ | (simp; done) | (simp; omega))) | with_reducible refine below_drewN ?_ _ | with_reducible refine Below.drew ?_ | with_reducible refine below_then ?_ (by with_reducible assumption)))
  have zw16 := hx.size
  replace hb := below_then hb hx
  replace ha := ha.below hx (by omega)
  replace ow := ow.below hx (by omega)
  replace og := og.below hx
  clear hx
  clear b
  obtain rfl : rm = rh := qm.out.trans qh.symm
  clear qh
  go_wp2_with fail
  go_ret
  exact RetB.mk rfl hb

theorem fnFoldExprA (w : World) (Aa : Option Addr) (na ca : Nat) (la : List Tok) (ha : Sl TokR w 0 w.heap.size Aa na ca la) :
    Calls Try.prog 5 #[.slice Aa na ca] w (RetB true w) := by
  exact fnFoldExpr w Aa na ca la ha

end Go.Proofs.Ytogoenncgfogfaa
