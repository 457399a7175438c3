/- For every image and every machine the program's PadsUp returns what the reference's returns: FnExactPadsUp returns true, and its arguments read as they did. No condition beyond the row's own. -/
import Derived.Test.YtmnkgcjbckamnaaGreatPads
import Derived.Test.YtmnkgcjbckamnaaGreatOwnOne
import Derived.Test.YtmnkgcjbckamnaaGreatMkIm
import Derived.Test.YtmnkgcjbckamnaaGreatOcIntL
import Derived.Test.YtmnkgcjbckamnaaGreatMkVx
import Derived.Test.YtmnkgcjbckamnaaGreatHdIntL
import Derived.Test.YtmnkgcjbckamnaaGreatKit1
import Derived.Deep.RegionHeld3
set_option linter.unusedVariables false
set_option linter.unusedSimpArgs false
set_option maxRecDepth 100000
namespace Go.Proofs.YtmnkgcjbckamnaaGreat
open Go.ChangeShapes Go.WideShapes Go.ChangeAt Go.RowKit
open Go.ChangeMaps (open_string)

theorem ownsl_nodup {α : Type} {R : Rp α} {w : World} {e : TypeId} {F : List Nat} {v : Value} {l : List α} (h : OwnSl R w e F v l) : F.Nodup := by
  obtain ⟨_, _, _, _, rfl, hn⟩ := h; exact hn
set_option maxHeartbeats 8000000 in
theorem fnPadsUp (w : World) (A0a : Option Addr) (n0a c0a : Nat) (s0a : List Code) (A0b : Option Addr) (n0b c0b : Nat) (s0b : List Frame) (A1b : Option Addr) (n1b c1b : Nat) (s1b : List Int) (x2b : Int) (x3b : Int) (x4b : Int) (x5b : Int) (A6b : Option Addr) (n6b c6b : Nat) (s6b : List Note) (h0a : Sl CodeR w 0 w.heap.size A0a n0a c0a s0a)  (h0b : Sl FrameR w 0 w.heap.size A0b n0b c0b s0b) (h1b : Sl intR w 0 w.heap.size A1b n1b c1b s1b) (h6b : Sl noteR w 0 w.heap.size A6b n6b c6b s6b) (i2b : I64 x2b) (i3b : I64 x3b) (i4b : I64 x4b) (i5b : I64 x5b) :
    Calls Tryz.prog 6 #[.agg #[.slice A0a n0a c0a], .agg #[.slice A0b n0b c0b, .slice A1b n1b c1b, .int .i64 x2b, .int .i64 x3b, .int .i64 x4b, .int .i64 x5b, .slice A6b n6b c6b]] w (RetB true w) := by
  go_enter Tryz.func6, Tryz.ntmps6
  go_wp2_with fail
  refine (lawsSzImage _ 0 _ A0a n0a c0a s0a (h0a.up (by omega) (by (repeat (first | with_reducible exact Below.refl _ _ | with_reducible assumption | with_reducible refine below_alloc ?_ _ | ((with_reducible refine Below.setCell ?_ ?_ _); rotate_left; (· first | exact Nat.le_refl _ | (simp; done) | (simp; omega))) | with_reducible refine below_drewN ?_ _ | with_reducible refine Below.drew ?_ | with_reducible refine below_then ?_ (by with_reducible assumption))))) (Nat.le_refl _) 1048576 (by omega) (by omega)).mono ?_
  rintro e w1 ⟨ra, rfl, hra, b⟩
  have hb : Below w.heap.size w w1 := by (repeat (first | with_reducible exact Below.refl _ _ | with_reducible assumption | with_reducible refine below_alloc ?_ _ | ((with_reducible refine Below.setCell ?_ ?_ _); rotate_left; (· first | exact Nat.le_refl _ | (simp; done) | (simp; omega))) | with_reducible refine below_drewN ?_ _ | with_reducible refine Below.drew ?_ | with_reducible refine below_then ?_ (by with_reducible assumption)))
  have hz := hb.size
  replace h0a := h0a.below hb (Nat.le_refl _)
  replace h0b := h0b.below hb (Nat.le_refl _)
  replace h1b := h1b.below hb (Nat.le_refl _)
  replace h6b := h6b.below hb (Nat.le_refl _)
  obtain ⟨hcE, hfE⟩ := bcell b
  have ka0 : w1.cell? ⟨w.heap.size, 0, none⟩ = some (.slice A0a n0a c0a) := by simp [hcE, go_sem]
  have kb0 : w1.cell? ⟨w.heap.size + 1, 0, none⟩ = some (.slice A0b n0b c0b) := by simp [hcE, go_sem]
  have kb1 : w1.cell? ⟨w.heap.size + 1, 1, none⟩ = some (.slice A1b n1b c1b) := by simp [hcE, go_sem]
  have kb2 : w1.cell? ⟨w.heap.size + 1, 2, none⟩ = some (.int .i64 x2b) := by simp [hcE, go_sem]
  have kb3 : w1.cell? ⟨w.heap.size + 1, 3, none⟩ = some (.int .i64 x3b) := by simp [hcE, go_sem]
  have kb4 : w1.cell? ⟨w.heap.size + 1, 4, none⟩ = some (.int .i64 x4b) := by simp [hcE, go_sem]
  have kb5 : w1.cell? ⟨w.heap.size + 1, 5, none⟩ = some (.int .i64 x5b) := by simp [hcE, go_sem]
  have kb6 : w1.cell? ⟨w.heap.size + 1, 6, none⟩ = some (.slice A6b n6b c6b) := by simp [hcE, go_sem]
  clear hcE hfE
  have zka : w.heap.size < w1.heap.size := World.block_lt_of_cell? w1 _ ka0
  have zkb : w.heap.size + 1 < w1.heap.size := World.block_lt_of_cell? w1 _ kb0
  have yka := zka
  have ykb := zkb
  clear b
  rcases hra with rfl | ⟨qa, ta⟩
  · go_wp2_with fail
    go_ret
    exact RetB.mk rfl hb
  have ma : mszLCode s0a ≤ 1048576 := by omega
  have ua : ra ≤ 1048576 := by omega
  clear ta
  have mm0a : mszLCode s0a ≤ 1048576 := by omega
  go_wp2_with fail
  refine (lawsSzVm _ 0 _ A0b n0b c0b s0b A1b n1b c1b s1b x2b x3b x4b x5b A6b n6b c6b s6b (h0b.up (by omega) (by (repeat (first | with_reducible exact Below.refl _ _ | with_reducible assumption | with_reducible refine below_alloc ?_ _ | ((with_reducible refine Below.setCell ?_ ?_ _); rotate_left; (· first | exact Nat.le_refl _ | (simp; done) | (simp; omega))) | with_reducible refine below_drewN ?_ _ | with_reducible refine Below.drew ?_ | with_reducible refine below_then ?_ (by with_reducible assumption))))) (h1b.up (by omega) (by (repeat (first | with_reducible exact Below.refl _ _ | with_reducible assumption | with_reducible refine below_alloc ?_ _ | ((with_reducible refine Below.setCell ?_ ?_ _); rotate_left; (· first | exact Nat.le_refl _ | (simp; done) | (simp; omega))) | with_reducible refine below_drewN ?_ _ | with_reducible refine Below.drew ?_ | with_reducible refine below_then ?_ (by with_reducible assumption))))) (h6b.up (by omega) (by (repeat (first | with_reducible exact Below.refl _ _ | with_reducible assumption | with_reducible refine below_alloc ?_ _ | ((with_reducible refine Below.setCell ?_ ?_ _); rotate_left; (· first | exact Nat.le_refl _ | (simp; done) | (simp; omega))) | with_reducible refine below_drewN ?_ _ | with_reducible refine Below.drew ?_ | with_reducible refine below_then ?_ (by with_reducible assumption))))) (Nat.le_refl _) ra (by omega) (by omega)).mono ?_
  rintro e w2 ⟨rb, rfl, hrb, b⟩
  have hx : Below w1.heap.size w1 w2 := by (repeat (first | with_reducible exact Below.refl _ _ | with_reducible assumption | with_reducible refine below_alloc ?_ _ | ((with_reducible refine Below.setCell ?_ ?_ _); rotate_left; (· first | exact Nat.le_refl _ | (simp; done) | (simp; omega))) | with_reducible refine below_drewN ?_ _ | with_reducible refine Below.drew ?_ | with_reducible refine below_then ?_ (by with_reducible assumption)))
  have zw2 := hx.size
  replace hb := below_then hb hx
  replace h0a := h0a.below hx (by omega)
  replace h0b := h0b.below hx (by omega)
  replace h1b := h1b.below hx (by omega)
  replace h6b := h6b.below hx (by omega)
  replace ka0 := below_cell hx ka0
  replace kb0 := below_cell hx kb0
  replace kb1 := below_cell hx kb1
  replace kb2 := below_cell hx kb2
  replace kb3 := below_cell hx kb3
  replace kb4 := below_cell hx kb4
  replace kb5 := below_cell hx kb5
  replace kb6 := below_cell hx kb6
  replace zka : w.heap.size < w2.heap.size := by omega
  replace zkb : w.heap.size + 1 < w2.heap.size := by omega
  clear hx
  clear b
  rcases hrb with rfl | ⟨qb, tb⟩
  · go_wp2_with fail
    go_ret
    exact RetB.mk rfl hb
  have mb : mszLFrame s0b + s1b.length + s6b.length ≤ 1048576 := by omega
  have ub : rb ≤ 1048576 := by omega
  clear tb
  have mm0b : mszLFrame s0b ≤ 1048576 := by omega
  have mm1b : s1b.length ≤ 1048576 := by omega
  have mm6b : s6b.length ≤ 1048576 := by omega
  have hRes := Lib.hid (show mszLIntL (puR s0a s0b s1b x2b x3b x4b x5b) ≤ 1099511627776 from Nat.le_trans (puR_msz s0a s0b s1b x2b x3b x4b x5b) (by have := mszLFrame_len s0b; omega))
  have hEq := eqB_true (rfl : puR s0a s0b s1b x2b x3b x4b x5b = puR s0a s0b s1b x2b x3b x4b x5b)
  go_wp2_with fail
  go_region_held3 (fun W => W.cell? ⟨w.heap.size, 0, none⟩ = some (.slice A0a n0a c0a) ∧ W.cell? ⟨w.heap.size + 1, 0, none⟩ = some (.slice A0b n0b c0b) ∧ W.cell? ⟨w.heap.size + 1, 1, none⟩ = some (.slice A1b n1b c1b) ∧ W.cell? ⟨w.heap.size + 1, 2, none⟩ = some (.int .i64 x2b) ∧ W.cell? ⟨w.heap.size + 1, 3, none⟩ = some (.int .i64 x3b) ∧ W.cell? ⟨w.heap.size + 1, 4, none⟩ = some (.int .i64 x4b) ∧ W.cell? ⟨w.heap.size + 1, 5, none⟩ = some (.int .i64 x5b) ∧ W.cell? ⟨w.heap.size + 1, 6, none⟩ = some (.slice A6b n6b c6b))
    (first | exact ⟨ka0, kb0, kb1, kb2, kb3, kb4, kb5, kb6⟩ | exact ⟨below_cell bw3 ka0, below_cell bw3 kb0, below_cell bw3 kb1, below_cell bw3 kb2, below_cell bw3 kb3, below_cell bw3 kb4, below_cell bw3 kb5, below_cell bw3 kb6⟩ | exact ⟨below_cell bw4 (below_cell bw3 ka0), below_cell bw4 (below_cell bw3 kb0), below_cell bw4 (below_cell bw3 kb1), below_cell bw4 (below_cell bw3 kb2), below_cell bw4 (below_cell bw3 kb3), below_cell bw4 (below_cell bw3 kb4), below_cell bw4 (below_cell bw3 kb5), below_cell bw4 (below_cell bw3 kb6)⟩ | exact ⟨below_cell bw5 (below_cell bw4 (below_cell bw3 ka0)), below_cell bw5 (below_cell bw4 (below_cell bw3 kb0)), below_cell bw5 (below_cell bw4 (below_cell bw3 kb1)), below_cell bw5 (below_cell bw4 (below_cell bw3 kb2)), below_cell bw5 (below_cell bw4 (below_cell bw3 kb3)), below_cell bw5 (below_cell bw4 (below_cell bw3 kb4)), below_cell bw5 (below_cell bw4 (below_cell bw3 kb5)), below_cell bw5 (below_cell bw4 (below_cell bw3 kb6))⟩)
    (first | (go_at_call 11; ((with_reducible refine (lawsToImage _ 0 _ A0a n0a c0a s0a (h0a.up (by omega) (by (repeat (first | with_reducible exact Below.refl _ _ | with_reducible assumption | with_reducible refine below_alloc ?_ _ | ((with_reducible refine Below.setCell ?_ ?_ _); rotate_left; (· first | exact Nat.le_refl _ | (simp; done) | (simp; omega))) | with_reducible refine below_drewN ?_ _ | with_reducible refine Below.drew ?_ | with_reducible refine below_then ?_ (by with_reducible assumption))))) (Nat.le_refl _) mm0a ).mono ?_); rintro e w3 ⟨Faq, A0aq, n0aq, c0aq, rfl, oaq, faq, bw3⟩)) | (go_at_call 23; ((with_reducible refine (lawsToVm _ 0 _ A0b n0b c0b s0b A1b n1b c1b s1b x2b x3b x4b x5b A6b n6b c6b s6b (h0b.up (by omega) (by (repeat (first | with_reducible exact Below.refl _ _ | with_reducible assumption | with_reducible refine below_alloc ?_ _ | ((with_reducible refine Below.setCell ?_ ?_ _); rotate_left; (· first | exact Nat.le_refl _ | (simp; done) | (simp; omega))) | with_reducible refine below_drewN ?_ _ | with_reducible refine Below.drew ?_ | with_reducible refine below_then ?_ (by with_reducible assumption))))) (h1b.up (by omega) (by (repeat (first | with_reducible exact Below.refl _ _ | with_reducible assumption | with_reducible refine below_alloc ?_ _ | ((with_reducible refine Below.setCell ?_ ?_ _); rotate_left; (· first | exact Nat.le_refl _ | (simp; done) | (simp; omega))) | with_reducible refine below_drewN ?_ _ | with_reducible refine Below.drew ?_ | with_reducible refine below_then ?_ (by with_reducible assumption))))) (h6b.up (by omega) (by (repeat (first | with_reducible exact Below.refl _ _ | with_reducible assumption | with_reducible refine below_alloc ?_ _ | ((with_reducible refine Below.setCell ?_ ?_ _); rotate_left; (· first | exact Nat.le_refl _ | (simp; done) | (simp; omega))) | with_reducible refine below_drewN ?_ _ | with_reducible refine Below.drew ?_ | with_reducible refine below_then ?_ (by with_reducible assumption))))) (Nat.le_refl _) mm0b mm1b mm6b i2b i3b i4b i5b).mono ?_); rintro e w4 ⟨Fbq, A0bq, n0bq, c0bq, A1bq, n1bq, c1bq, A6bq, n6bq, c6bq, rfl, obq, fbq, bw4⟩)) | (go_at_call 26; ((with_reducible refine (specPadsUpC _ A0aq n0aq c0aq s0a A0bq n0bq c0bq s0b A1bq n1bq c1bq s1b x2b x3b x4b x5b A6bq n6bq c6bq s6b ((Image_sl0 oaq).next (by (repeat (first | with_reducible exact Below.refl _ _ | with_reducible assumption | with_reducible refine below_alloc ?_ _ | ((with_reducible refine Below.setCell ?_ ?_ _); rotate_left; (· first | exact Nat.le_refl _ | (simp; done) | (simp; omega))) | with_reducible refine below_drewN ?_ _ | with_reducible refine Below.drew ?_ | with_reducible refine below_then ?_ (by with_reducible assumption))))) mm0a ((Vm_sl0 obq).next (by (repeat (first | with_reducible exact Below.refl _ _ | with_reducible assumption | with_reducible refine below_alloc ?_ _ | ((with_reducible refine Below.setCell ?_ ?_ _); rotate_left; (· first | exact Nat.le_refl _ | (simp; done) | (simp; omega))) | with_reducible refine below_drewN ?_ _ | with_reducible refine Below.drew ?_ | with_reducible refine below_then ?_ (by with_reducible assumption))))) ((Vm_sl1 obq).next (by (repeat (first | with_reducible exact Below.refl _ _ | with_reducible assumption | with_reducible refine below_alloc ?_ _ | ((with_reducible refine Below.setCell ?_ ?_ _); rotate_left; (· first | exact Nat.le_refl _ | (simp; done) | (simp; omega))) | with_reducible refine below_drewN ?_ _ | with_reducible refine Below.drew ?_ | with_reducible refine below_then ?_ (by with_reducible assumption))))) ((Vm_sl6 obq).next (by (repeat (first | with_reducible exact Below.refl _ _ | with_reducible assumption | with_reducible refine below_alloc ?_ _ | ((with_reducible refine Below.setCell ?_ ?_ _); rotate_left; (· first | exact Nat.le_refl _ | (simp; done) | (simp; omega))) | with_reducible refine below_drewN ?_ _ | with_reducible refine Below.drew ?_ | with_reducible refine below_then ?_ (by with_reducible assumption))))) mm0b mm1b mm6b i2b i3b i4b i5b).mono ?_); rintro e w5 ⟨Aw, nw, cw, rfl, ow, bw5⟩)))
  have hx : Below w2.heap.size w2 w5 := by (repeat (first | with_reducible exact Below.refl _ _ | with_reducible assumption | with_reducible refine below_alloc ?_ _ | ((with_reducible refine Below.setCell ?_ ?_ _); rotate_left; (· first | exact Nat.le_refl _ | (simp; done) | (simp; omega))) | with_reducible refine below_drewN ?_ _ | with_reducible refine Below.drew ?_ | with_reducible refine below_then ?_ (by with_reducible assumption)))
  have zw5 := hx.size
  replace hb := below_then hb hx
  replace h0a := h0a.below hx (by omega)
  replace h0b := h0b.below hx (by omega)
  replace h1b := h1b.below hx (by omega)
  replace h6b := h6b.below hx (by omega)
  replace ka0 := below_cell hx ka0
  replace kb0 := below_cell hx kb0
  replace kb1 := below_cell hx kb1
  replace kb2 := below_cell hx kb2
  replace kb3 := below_cell hx kb3
  replace kb4 := below_cell hx kb4
  replace kb5 := below_cell hx kb5
  replace kb6 := below_cell hx kb6
  replace zka : w.heap.size < w5.heap.size := by omega
  replace zkb : w.heap.size + 1 < w5.heap.size := by omega
  clear hx
  clear bw5 bw4 bw3
  clear oaq faq
  clear obq fbq
  go_wp2_with fail
  refine (lawsToImage _ 0 _ A0a n0a c0a s0a (h0a.up (by omega) (by (repeat (first | with_reducible exact Below.refl _ _ | with_reducible assumption | with_reducible refine below_alloc ?_ _ | ((with_reducible refine Below.setCell ?_ ?_ _); rotate_left; (· first | exact Nat.le_refl _ | (simp; done) | (simp; omega))) | with_reducible refine below_drewN ?_ _ | with_reducible refine Below.drew ?_ | with_reducible refine below_then ?_ (by with_reducible assumption))))) (Nat.le_refl _) mm0a ).mono ?_
  rintro e w6 ⟨Fax, A0ax, n0ax, c0ax, rfl, oax, fax, b⟩
  have hx : Below w5.heap.size w5 w6 := by (repeat (first | with_reducible exact Below.refl _ _ | with_reducible assumption | with_reducible refine below_alloc ?_ _ | ((with_reducible refine Below.setCell ?_ ?_ _); rotate_left; (· first | exact Nat.le_refl _ | (simp; done) | (simp; omega))) | with_reducible refine below_drewN ?_ _ | with_reducible refine Below.drew ?_ | with_reducible refine below_then ?_ (by with_reducible assumption)))
  have zw6 := hx.size
  replace hb := below_then hb hx
  replace h0a := h0a.below hx (by omega)
  replace h0b := h0b.below hx (by omega)
  replace h1b := h1b.below hx (by omega)
  replace h6b := h6b.below hx (by omega)
  replace ow := ow.below hx (by omega)
  replace ka0 := below_cell hx ka0
  replace kb0 := below_cell hx kb0
  replace kb1 := below_cell hx kb1
  replace kb2 := below_cell hx kb2
  replace kb3 := below_cell hx kb3
  replace kb4 := below_cell hx kb4
  replace kb5 := below_cell hx kb5
  replace kb6 := below_cell hx kb6
  replace zka : w.heap.size < w6.heap.size := by omega
  replace zkb : w.heap.size + 1 < w6.heap.size := by omega
  clear hx
  clear b
  have Lax : ∀ k, k ∈ Fax → k < w6.heap.size := ImageR.ownLt oax
  replace fax : ∀ k, k ∈ Fax → w5.heap.size ≤ k := fun k hk => by have := fax k hk; first | omega | (simp at this; omega)
  obtain ⟨F0ax, hF0ax⟩ : ∃ F, F = Fax := ⟨_, rfl⟩
  have o0ax : OwnSl CodeR _ 30 Fax (.slice A0ax n0ax c0ax) s0a := own_of1 oax
  rw [← hF0ax] at fax Lax o0ax
  clear oax hF0ax
  have ndax := ownsl_nodup o0ax
  have f0ax : ∀ k, k ∈ F0ax → _ ≤ k := fun k hk => fax k hk
  have L0ax : ∀ k, k ∈ F0ax → k < w6.heap.size := fun k hk => Lax k hk
  go_wp2_with fail
  refine (lawsToVm _ 0 _ A0b n0b c0b s0b A1b n1b c1b s1b x2b x3b x4b x5b A6b n6b c6b s6b (h0b.up (by omega) (by (repeat (first | with_reducible exact Below.refl _ _ | with_reducible assumption | with_reducible refine below_alloc ?_ _ | ((with_reducible refine Below.setCell ?_ ?_ _); rotate_left; (· first | exact Nat.le_refl _ | (simp; done) | (simp; omega))) | with_reducible refine below_drewN ?_ _ | with_reducible refine Below.drew ?_ | with_reducible refine below_then ?_ (by with_reducible assumption))))) (h1b.up (by omega) (by (repeat (first | with_reducible exact Below.refl _ _ | with_reducible assumption | with_reducible refine below_alloc ?_ _ | ((with_reducible refine Below.setCell ?_ ?_ _); rotate_left; (· first | exact Nat.le_refl _ | (simp; done) | (simp; omega))) | with_reducible refine below_drewN ?_ _ | with_reducible refine Below.drew ?_ | with_reducible refine below_then ?_ (by with_reducible assumption))))) (h6b.up (by omega) (by (repeat (first | with_reducible exact Below.refl _ _ | with_reducible assumption | with_reducible refine below_alloc ?_ _ | ((with_reducible refine Below.setCell ?_ ?_ _); rotate_left; (· first | exact Nat.le_refl _ | (simp; done) | (simp; omega))) | with_reducible refine below_drewN ?_ _ | with_reducible refine Below.drew ?_ | with_reducible refine below_then ?_ (by with_reducible assumption))))) (Nat.le_refl _) mm0b mm1b mm6b i2b i3b i4b i5b).mono ?_
  rintro e w7 ⟨Fbx, A0bx, n0bx, c0bx, A1bx, n1bx, c1bx, A6bx, n6bx, c6bx, rfl, obx, fbx, b⟩
  have hx : Below w6.heap.size w6 w7 := by (repeat (first | with_reducible exact Below.refl _ _ | with_reducible assumption | with_reducible refine below_alloc ?_ _ | ((with_reducible refine Below.setCell ?_ ?_ _); rotate_left; (· first | exact Nat.le_refl _ | (simp; done) | (simp; omega))) | with_reducible refine below_drewN ?_ _ | with_reducible refine Below.drew ?_ | with_reducible refine below_then ?_ (by with_reducible assumption)))
  have zw7 := hx.size
  replace hb := below_then hb hx
  replace h0a := h0a.below hx (by omega)
  replace h0b := h0b.below hx (by omega)
  replace h1b := h1b.below hx (by omega)
  replace h6b := h6b.below hx (by omega)
  replace ow := ow.below hx (by omega)
  replace o0ax := o0ax.below hx
  replace ka0 := below_cell hx ka0
  replace kb0 := below_cell hx kb0
  replace kb1 := below_cell hx kb1
  replace kb2 := below_cell hx kb2
  replace kb3 := below_cell hx kb3
  replace kb4 := below_cell hx kb4
  replace kb5 := below_cell hx kb5
  replace kb6 := below_cell hx kb6
  obtain ⟨hcE, hfE⟩ := bcell b
  have ja0 : w7.cell? ⟨w6.heap.size, 0, none⟩ = some (.slice A0ax n0ax c0ax) := by simp [hcE, go_sem]
  clear hcE hfE
  have zja : w6.heap.size < w7.heap.size := World.block_lt_of_cell? w7 _ ja0
  have yja := zja
  replace zka : w.heap.size < w7.heap.size := by omega
  replace zkb : w.heap.size + 1 < w7.heap.size := by omega
  clear hx
  clear b
  have Lbx : ∀ k, k ∈ Fbx → k < w7.heap.size := VmR.ownLt obx
  replace fbx : ∀ k, k ∈ Fbx → w6.heap.size + 1 ≤ k := fun k hk => by have := fbx k hk; first | omega | (simp at this; omega)
  obtain ⟨F0bx, F1bx, F6bx, eFbx, ndbx, o0bx, o1bx, o6bx⟩ := Vm_ownc obx
  rw [eFbx] at fbx Lbx
  clear obx eFbx
  have f0bx : ∀ k, k ∈ F0bx → _ ≤ k := fun k hk => fbx k (List.mem_append_left _ hk)
  have L0bx : ∀ k, k ∈ F0bx → k < w7.heap.size := fun k hk => Lbx k (List.mem_append_left _ hk)
  have f1bx : ∀ k, k ∈ F1bx → _ ≤ k := fun k hk => fbx k (List.mem_append_right _ (List.mem_append_left _ hk))
  have L1bx : ∀ k, k ∈ F1bx → k < w7.heap.size := fun k hk => Lbx k (List.mem_append_right _ (List.mem_append_left _ hk))
  have f6bx : ∀ k, k ∈ F6bx → _ ≤ k := fun k hk => fbx k (List.mem_append_right _ (List.mem_append_right _ hk))
  have L6bx : ∀ k, k ∈ F6bx → k < w7.heap.size := fun k hk => Lbx k (List.mem_append_right _ (List.mem_append_right _ hk))
  go_wp2_with fail
  refine (implPadsUpO _ A0ax n0ax c0ax s0a A0bx n0bx c0bx s0b A1bx n1bx c1bx s1b x2b x3b x4b x5b A6bx n6bx c6bx s6b (o0ax.sl.next (by (repeat (first | with_reducible exact Below.refl _ _ | with_reducible assumption | with_reducible refine below_alloc ?_ _ | ((with_reducible refine Below.setCell ?_ ?_ _); rotate_left; (· first | exact Nat.le_refl _ | (simp; done) | (simp; omega))) | with_reducible refine below_drewN ?_ _ | with_reducible refine Below.drew ?_ | with_reducible refine below_then ?_ (by with_reducible assumption))))) mm0a (o0bx.sl.next (by (repeat (first | with_reducible exact Below.refl _ _ | with_reducible assumption | with_reducible refine below_alloc ?_ _ | ((with_reducible refine Below.setCell ?_ ?_ _); rotate_left; (· first | exact Nat.le_refl _ | (simp; done) | (simp; omega))) | with_reducible refine below_drewN ?_ _ | with_reducible refine Below.drew ?_ | with_reducible refine below_then ?_ (by with_reducible assumption))))) (o1bx.sl.next (by (repeat (first | with_reducible exact Below.refl _ _ | with_reducible assumption | with_reducible refine below_alloc ?_ _ | ((with_reducible refine Below.setCell ?_ ?_ _); rotate_left; (· first | exact Nat.le_refl _ | (simp; done) | (simp; omega))) | with_reducible refine below_drewN ?_ _ | with_reducible refine Below.drew ?_ | with_reducible refine below_then ?_ (by with_reducible assumption))))) (o6bx.sl.next (by (repeat (first | with_reducible exact Below.refl _ _ | with_reducible assumption | with_reducible refine below_alloc ?_ _ | ((with_reducible refine Below.setCell ?_ ?_ _); rotate_left; (· first | exact Nat.le_refl _ | (simp; done) | (simp; omega))) | with_reducible refine below_drewN ?_ _ | with_reducible refine Below.drew ?_ | with_reducible refine below_then ?_ (by with_reducible assumption))))) mm0b mm1b mm6b i2b i3b i4b i5b).mono ?_
  rintro e w8 ⟨Fg, Ag, ng, cg, rfl, og, fg, b⟩
  have hx : Below w7.heap.size w7 w8 := by (repeat (first | with_reducible exact Below.refl _ _ | with_reducible assumption | with_reducible refine below_alloc ?_ _ | ((with_reducible refine Below.setCell ?_ ?_ _); rotate_left; (· first | exact Nat.le_refl _ | (simp; done) | (simp; omega))) | with_reducible refine below_drewN ?_ _ | with_reducible refine Below.drew ?_ | with_reducible refine below_then ?_ (by with_reducible assumption)))
  have zw8 := hx.size
  replace hb := below_then hb hx
  replace h0a := h0a.below hx (by omega)
  replace h0b := h0b.below hx (by omega)
  replace h1b := h1b.below hx (by omega)
  replace h6b := h6b.below hx (by omega)
  replace ow := ow.below hx (by omega)
  replace o0ax := o0ax.below hx
  replace o0bx := o0bx.below hx
  replace o1bx := o1bx.below hx
  replace o6bx := o6bx.below hx
  replace ka0 := below_cell hx ka0
  replace kb0 := below_cell hx kb0
  replace kb1 := below_cell hx kb1
  replace kb2 := below_cell hx kb2
  replace kb3 := below_cell hx kb3
  replace kb4 := below_cell hx kb4
  replace kb5 := below_cell hx kb5
  replace kb6 := below_cell hx kb6
  replace ja0 := below_cell hx ja0
  obtain ⟨hcE, hfE⟩ := bcell b
  have jb0 : w8.cell? ⟨w7.heap.size, 0, none⟩ = some (.slice A0bx n0bx c0bx) := by simp [hcE, go_sem]
  have jb1 : w8.cell? ⟨w7.heap.size, 1, none⟩ = some (.slice A1bx n1bx c1bx) := by simp [hcE, go_sem]
  have jb2 : w8.cell? ⟨w7.heap.size, 2, none⟩ = some (.int .i64 x2b) := by simp [hcE, go_sem]
  have jb3 : w8.cell? ⟨w7.heap.size, 3, none⟩ = some (.int .i64 x3b) := by simp [hcE, go_sem]
  have jb4 : w8.cell? ⟨w7.heap.size, 4, none⟩ = some (.int .i64 x4b) := by simp [hcE, go_sem]
  have jb5 : w8.cell? ⟨w7.heap.size, 5, none⟩ = some (.int .i64 x5b) := by simp [hcE, go_sem]
  have jb6 : w8.cell? ⟨w7.heap.size, 6, none⟩ = some (.slice A6bx n6bx c6bx) := by simp [hcE, go_sem]
  clear hcE hfE
  have zjb : w7.heap.size < w8.heap.size := World.block_lt_of_cell? w8 _ jb0
  have yjb := zjb
  replace zka : w.heap.size < w8.heap.size := by omega
  replace zja : w6.heap.size < w8.heap.size := by omega
  replace zkb : w.heap.size + 1 < w8.heap.size := by omega
  clear hx
  clear b
  replace fg : ∀ k, k ∈ Fg → w7.heap.size ≤ k := fun k hk => by have := fg k hk; first | omega | (simp at this; omega)
  have Lg := og.lt
  go_wp2_with fail
  refine (lawsEqIntSS _ 0 _ 0 _ ng nw cg cw Ag Aw _ _ og.sl (ow.more (Nat.le_refl _) (by omega)) (Nat.le_refl _) (Nat.le_refl _)).mono ?_
  rintro e w9 ⟨rfl, b⟩
  have hx : Below w8.heap.size w8 w9 := by (repeat (first | with_reducible exact Below.refl _ _ | with_reducible assumption | with_reducible refine below_alloc ?_ _ | ((with_reducible refine Below.setCell ?_ ?_ _); rotate_left; (· first | exact Nat.le_refl _ | (simp; done) | (simp; omega))) | with_reducible refine below_drewN ?_ _ | with_reducible refine Below.drew ?_ | with_reducible refine below_then ?_ (by with_reducible assumption)))
  have zw9 := hx.size
  replace hb := below_then hb hx
  replace h0a := h0a.below hx (by omega)
  replace h0b := h0b.below hx (by omega)
  replace h1b := h1b.below hx (by omega)
  replace h6b := h6b.below hx (by omega)
  replace ow := ow.below hx (by omega)
  replace o0ax := o0ax.below hx
  replace o0bx := o0bx.below hx
  replace o1bx := o1bx.below hx
  replace o6bx := o6bx.below hx
  replace og := og.below hx
  replace ka0 := below_cell hx ka0
  replace kb0 := below_cell hx kb0
  replace kb1 := below_cell hx kb1
  replace kb2 := below_cell hx kb2
  replace kb3 := below_cell hx kb3
  replace kb4 := below_cell hx kb4
  replace kb5 := below_cell hx kb5
  replace kb6 := below_cell hx kb6
  replace ja0 := below_cell hx ja0
  replace jb0 := below_cell hx jb0
  replace jb1 := below_cell hx jb1
  replace jb2 := below_cell hx jb2
  replace jb3 := below_cell hx jb3
  replace jb4 := below_cell hx jb4
  replace jb5 := below_cell hx jb5
  replace jb6 := below_cell hx jb6
  replace zka : w.heap.size < w9.heap.size := by omega
  replace zja : w6.heap.size < w9.heap.size := by omega
  replace zkb : w.heap.size + 1 < w9.heap.size := by omega
  replace zjb : w7.heap.size < w9.heap.size := by omega
  clear hx
  clear b
  have hE := eqB_true (rfl : s0a = s0a)
  go_wp2_with fail
  go_region_held3 (fun W => W.cell? ⟨w.heap.size, 0, none⟩ = some (.slice A0a n0a c0a) ∧ W.cell? ⟨w6.heap.size, 0, none⟩ = some (.slice A0ax n0ax c0ax))
    (first | exact ⟨ka0, ja0⟩ | exact ⟨below_cell bw10 ka0, below_cell bw10 ja0⟩ | exact ⟨below_cell bw11 (below_cell bw10 ka0), below_cell bw11 (below_cell bw10 ja0)⟩)
    (first | (go_at_call 11; ((with_reducible refine (lawsToImage _ 0 _ A0a n0a c0a s0a (h0a.up (by omega) (by (repeat (first | with_reducible exact Below.refl _ _ | with_reducible assumption | with_reducible refine below_alloc ?_ _ | ((with_reducible refine Below.setCell ?_ ?_ _); rotate_left; (· first | exact Nat.le_refl _ | (simp; done) | (simp; omega))) | with_reducible refine below_drewN ?_ _ | with_reducible refine Below.drew ?_ | with_reducible refine below_then ?_ (by with_reducible assumption))))) (Nat.le_refl _) mm0a ).mono ?_); rintro e w10 ⟨Fay, A0ay, n0ay, c0ay, rfl, oay, fay, bw10⟩)) | (go_at_call 14; ((with_reducible refine (lawsEqImage _ 0 _ 0 _ A0ax n0ax c0ax s0a A0ay n0ay c0ay s0a (o0ax.sl.next (by (repeat (first | with_reducible exact Below.refl _ _ | with_reducible assumption | with_reducible refine below_alloc ?_ _ | ((with_reducible refine Below.setCell ?_ ?_ _); rotate_left; (· first | exact Nat.le_refl _ | (simp; done) | (simp; omega))) | with_reducible refine below_drewN ?_ _ | with_reducible refine Below.drew ?_ | with_reducible refine below_then ?_ (by with_reducible assumption))))) ((Image_sl0 oay).next (by (repeat (first | with_reducible exact Below.refl _ _ | with_reducible assumption | with_reducible refine below_alloc ?_ _ | ((with_reducible refine Below.setCell ?_ ?_ _); rotate_left; (· first | exact Nat.le_refl _ | (simp; done) | (simp; omega))) | with_reducible refine below_drewN ?_ _ | with_reducible refine Below.drew ?_ | with_reducible refine below_then ?_ (by with_reducible assumption))))) (Nat.le_refl _) (Nat.le_refl _)).mono ?_); rintro e w11 ⟨rfl, bw11⟩)))
  have hx : Below w9.heap.size w9 w11 := by (repeat (first | with_reducible exact Below.refl _ _ | with_reducible assumption | with_reducible refine below_alloc ?_ _ | ((with_reducible refine Below.setCell ?_ ?_ _); rotate_left; (· first | exact Nat.le_refl _ | (simp; done) | (simp; omega))) | with_reducible refine below_drewN ?_ _ | with_reducible refine Below.drew ?_ | with_reducible refine below_then ?_ (by with_reducible assumption)))
  have zw11 := hx.size
  replace hb := below_then hb hx
  replace h0a := h0a.below hx (by omega)
  replace h0b := h0b.below hx (by omega)
  replace h1b := h1b.below hx (by omega)
  replace h6b := h6b.below hx (by omega)
  replace ow := ow.below hx (by omega)
  replace o0ax := o0ax.below hx
  replace o0bx := o0bx.below hx
  replace o1bx := o1bx.below hx
  replace o6bx := o6bx.below hx
  replace og := og.below hx
  replace ka0 := below_cell hx ka0
  replace kb0 := below_cell hx kb0
  replace kb1 := below_cell hx kb1
  replace kb2 := below_cell hx kb2
  replace kb3 := below_cell hx kb3
  replace kb4 := below_cell hx kb4
  replace kb5 := below_cell hx kb5
  replace kb6 := below_cell hx kb6
  replace ja0 := below_cell hx ja0
  replace jb0 := below_cell hx jb0
  replace jb1 := below_cell hx jb1
  replace jb2 := below_cell hx jb2
  replace jb3 := below_cell hx jb3
  replace jb4 := below_cell hx jb4
  replace jb5 := below_cell hx jb5
  replace jb6 := below_cell hx jb6
  replace zka : w.heap.size < w11.heap.size := by omega
  replace zja : w6.heap.size < w11.heap.size := by omega
  replace zkb : w.heap.size + 1 < w11.heap.size := by omega
  replace zjb : w7.heap.size < w11.heap.size := by omega
  clear hx
  clear bw11 bw10 oay fay hE
  have hE := eqB_true (rfl : (s0b, s1b, x2b, x3b, x4b, x5b, s6b) = (s0b, s1b, x2b, x3b, x4b, x5b, s6b))
  go_wp2_with fail
  go_region_held3 (fun W => W.cell? ⟨w.heap.size + 1, 0, none⟩ = some (.slice A0b n0b c0b) ∧ W.cell? ⟨w.heap.size + 1, 1, none⟩ = some (.slice A1b n1b c1b) ∧ W.cell? ⟨w.heap.size + 1, 2, none⟩ = some (.int .i64 x2b) ∧ W.cell? ⟨w.heap.size + 1, 3, none⟩ = some (.int .i64 x3b) ∧ W.cell? ⟨w.heap.size + 1, 4, none⟩ = some (.int .i64 x4b) ∧ W.cell? ⟨w.heap.size + 1, 5, none⟩ = some (.int .i64 x5b) ∧ W.cell? ⟨w.heap.size + 1, 6, none⟩ = some (.slice A6b n6b c6b) ∧ W.cell? ⟨w7.heap.size, 0, none⟩ = some (.slice A0bx n0bx c0bx) ∧ W.cell? ⟨w7.heap.size, 1, none⟩ = some (.slice A1bx n1bx c1bx) ∧ W.cell? ⟨w7.heap.size, 2, none⟩ = some (.int .i64 x2b) ∧ W.cell? ⟨w7.heap.size, 3, none⟩ = some (.int .i64 x3b) ∧ W.cell? ⟨w7.heap.size, 4, none⟩ = some (.int .i64 x4b) ∧ W.cell? ⟨w7.heap.size, 5, none⟩ = some (.int .i64 x5b) ∧ W.cell? ⟨w7.heap.size, 6, none⟩ = some (.slice A6bx n6bx c6bx))
    (first | exact ⟨kb0, kb1, kb2, kb3, kb4, kb5, kb6, jb0, jb1, jb2, jb3, jb4, jb5, jb6⟩ | exact ⟨below_cell bw12 kb0, below_cell bw12 kb1, below_cell bw12 kb2, below_cell bw12 kb3, below_cell bw12 kb4, below_cell bw12 kb5, below_cell bw12 kb6, below_cell bw12 jb0, below_cell bw12 jb1, below_cell bw12 jb2, below_cell bw12 jb3, below_cell bw12 jb4, below_cell bw12 jb5, below_cell bw12 jb6⟩ | exact ⟨below_cell bw13 (below_cell bw12 kb0), below_cell bw13 (below_cell bw12 kb1), below_cell bw13 (below_cell bw12 kb2), below_cell bw13 (below_cell bw12 kb3), below_cell bw13 (below_cell bw12 kb4), below_cell bw13 (below_cell bw12 kb5), below_cell bw13 (below_cell bw12 kb6), below_cell bw13 (below_cell bw12 jb0), below_cell bw13 (below_cell bw12 jb1), below_cell bw13 (below_cell bw12 jb2), below_cell bw13 (below_cell bw12 jb3), below_cell bw13 (below_cell bw12 jb4), below_cell bw13 (below_cell bw12 jb5), below_cell bw13 (below_cell bw12 jb6)⟩)
    (first | (go_at_call 23; ((with_reducible refine (lawsToVm _ 0 _ A0b n0b c0b s0b A1b n1b c1b s1b x2b x3b x4b x5b A6b n6b c6b s6b (h0b.up (by omega) (by (repeat (first | with_reducible exact Below.refl _ _ | with_reducible assumption | with_reducible refine below_alloc ?_ _ | ((with_reducible refine Below.setCell ?_ ?_ _); rotate_left; (· first | exact Nat.le_refl _ | (simp; done) | (simp; omega))) | with_reducible refine below_drewN ?_ _ | with_reducible refine Below.drew ?_ | with_reducible refine below_then ?_ (by with_reducible assumption))))) (h1b.up (by omega) (by (repeat (first | with_reducible exact Below.refl _ _ | with_reducible assumption | with_reducible refine below_alloc ?_ _ | ((with_reducible refine Below.setCell ?_ ?_ _); rotate_left; (· first | exact Nat.le_refl _ | (simp; done) | (simp; omega))) | with_reducible refine below_drewN ?_ _ | with_reducible refine Below.drew ?_ | with_reducible refine below_then ?_ (by with_reducible assumption))))) (h6b.up (by omega) (by (repeat (first | with_reducible exact Below.refl _ _ | with_reducible assumption | with_reducible refine below_alloc ?_ _ | ((with_reducible refine Below.setCell ?_ ?_ _); rotate_left; (· first | exact Nat.le_refl _ | (simp; done) | (simp; omega))) | with_reducible refine below_drewN ?_ _ | with_reducible refine Below.drew ?_ | with_reducible refine below_then ?_ (by with_reducible assumption))))) (Nat.le_refl _) mm0b mm1b mm6b i2b i3b i4b i5b).mono ?_); rintro e w12 ⟨Fby, A0by, n0by, c0by, A1by, n1by, c1by, A6by, n6by, c6by, rfl, oby, fby, bw12⟩)) | (go_at_call 25; ((with_reducible refine (lawsEqVm _ 0 _ 0 _ A0bx n0bx c0bx s0b A1bx n1bx c1bx s1b x2b x3b x4b x5b A6bx n6bx c6bx s6b A0by n0by c0by s0b A1by n1by c1by s1b x2b x3b x4b x5b A6by n6by c6by s6b (o0bx.sl.next (by (repeat (first | with_reducible exact Below.refl _ _ | with_reducible assumption | with_reducible refine below_alloc ?_ _ | ((with_reducible refine Below.setCell ?_ ?_ _); rotate_left; (· first | exact Nat.le_refl _ | (simp; done) | (simp; omega))) | with_reducible refine below_drewN ?_ _ | with_reducible refine Below.drew ?_ | with_reducible refine below_then ?_ (by with_reducible assumption))))) (o1bx.sl.next (by (repeat (first | with_reducible exact Below.refl _ _ | with_reducible assumption | with_reducible refine below_alloc ?_ _ | ((with_reducible refine Below.setCell ?_ ?_ _); rotate_left; (· first | exact Nat.le_refl _ | (simp; done) | (simp; omega))) | with_reducible refine below_drewN ?_ _ | with_reducible refine Below.drew ?_ | with_reducible refine below_then ?_ (by with_reducible assumption))))) (o6bx.sl.next (by (repeat (first | with_reducible exact Below.refl _ _ | with_reducible assumption | with_reducible refine below_alloc ?_ _ | ((with_reducible refine Below.setCell ?_ ?_ _); rotate_left; (· first | exact Nat.le_refl _ | (simp; done) | (simp; omega))) | with_reducible refine below_drewN ?_ _ | with_reducible refine Below.drew ?_ | with_reducible refine below_then ?_ (by with_reducible assumption))))) ((Vm_sl0 oby).next (by (repeat (first | with_reducible exact Below.refl _ _ | with_reducible assumption | with_reducible refine below_alloc ?_ _ | ((with_reducible refine Below.setCell ?_ ?_ _); rotate_left; (· first | exact Nat.le_refl _ | (simp; done) | (simp; omega))) | with_reducible refine below_drewN ?_ _ | with_reducible refine Below.drew ?_ | with_reducible refine below_then ?_ (by with_reducible assumption))))) ((Vm_sl1 oby).next (by (repeat (first | with_reducible exact Below.refl _ _ | with_reducible assumption | with_reducible refine below_alloc ?_ _ | ((with_reducible refine Below.setCell ?_ ?_ _); rotate_left; (· first | exact Nat.le_refl _ | (simp; done) | (simp; omega))) | with_reducible refine below_drewN ?_ _ | with_reducible refine Below.drew ?_ | with_reducible refine below_then ?_ (by with_reducible assumption))))) ((Vm_sl6 oby).next (by (repeat (first | with_reducible exact Below.refl _ _ | with_reducible assumption | with_reducible refine below_alloc ?_ _ | ((with_reducible refine Below.setCell ?_ ?_ _); rotate_left; (· first | exact Nat.le_refl _ | (simp; done) | (simp; omega))) | with_reducible refine below_drewN ?_ _ | with_reducible refine Below.drew ?_ | with_reducible refine below_then ?_ (by with_reducible assumption))))) (Nat.le_refl _) (Nat.le_refl _)).mono ?_); rintro e w13 ⟨rfl, bw13⟩)))
  have hx : Below w11.heap.size w11 w13 := by (repeat (first | with_reducible exact Below.refl _ _ | with_reducible assumption | with_reducible refine below_alloc ?_ _ | ((with_reducible refine Below.setCell ?_ ?_ _); rotate_left; (· first | exact Nat.le_refl _ | (simp; done) | (simp; omega))) | with_reducible refine below_drewN ?_ _ | with_reducible refine Below.drew ?_ | with_reducible refine below_then ?_ (by with_reducible assumption)))
  have zw13 := hx.size
  replace hb := below_then hb hx
  replace h0a := h0a.below hx (by omega)
  replace h0b := h0b.below hx (by omega)
  replace h1b := h1b.below hx (by omega)
  replace h6b := h6b.below hx (by omega)
  replace ow := ow.below hx (by omega)
  replace o0ax := o0ax.below hx
  replace o0bx := o0bx.below hx
  replace o1bx := o1bx.below hx
  replace o6bx := o6bx.below hx
  replace og := og.below hx
  replace ka0 := below_cell hx ka0
  replace kb0 := below_cell hx kb0
  replace kb1 := below_cell hx kb1
  replace kb2 := below_cell hx kb2
  replace kb3 := below_cell hx kb3
  replace kb4 := below_cell hx kb4
  replace kb5 := below_cell hx kb5
  replace kb6 := below_cell hx kb6
  replace ja0 := below_cell hx ja0
  replace jb0 := below_cell hx jb0
  replace jb1 := below_cell hx jb1
  replace jb2 := below_cell hx jb2
  replace jb3 := below_cell hx jb3
  replace jb4 := below_cell hx jb4
  replace jb5 := below_cell hx jb5
  replace jb6 := below_cell hx jb6
  replace zka : w.heap.size < w13.heap.size := by omega
  replace zja : w6.heap.size < w13.heap.size := by omega
  replace zkb : w.heap.size + 1 < w13.heap.size := by omega
  replace zjb : w7.heap.size < w13.heap.size := by omega
  clear hx
  clear bw13 bw12 oby fby hE
  go_wp2_with fail
  have ct0 := cntCode_le s0a
  refine (mkImageTop _ A0ax n0ax c0ax s0a 1 F0ax o0ax ndax (by omega) (by omega)).mono ?_
  rintro e w14 ⟨rax, rfl, qr, om0, hf⟩
  clear om0
  have hr0ax : 0 ≤ rax := by omega
  have hr1ax : rax ≤ 1099511627776 := by omega
  clear qr
  clear ct0
  have zw14 := hf.size
  replace hb := below_fr hb hf (fun k hk => by have := fax k hk; omega)
  replace h0a := h0a.fr hf (by omega) (fun k hk => Or.inr (by have := fax k hk; omega))
  replace h0b := h0b.fr hf (by omega) (fun k hk => Or.inr (by have := fax k hk; omega))
  replace h1b := h1b.fr hf (by omega) (fun k hk => Or.inr (by have := fax k hk; omega))
  replace h6b := h6b.fr hf (by omega) (fun k hk => Or.inr (by have := fax k hk; omega))
  replace ow := ow.fr hf (by omega) (fun k hk => Or.inr (by have := fax k hk; omega))
  replace o0bx := o0bx.fr hf (fun k hk hk' => by have := f0bx k hk; have := L0bx k hk; have := fax k hk'; have := Lax k hk'; omega)
  replace o1bx := o1bx.fr hf (fun k hk hk' => by have := f1bx k hk; have := L1bx k hk; have := fax k hk'; have := Lax k hk'; omega)
  replace o6bx := o6bx.fr hf (fun k hk hk' => by have := f6bx k hk; have := L6bx k hk; have := fax k hk'; have := Lax k hk'; omega)
  replace og := og.fr hf (fun k hk hk' => by have := fg k hk; have := Lg k hk; have := fax k hk'; have := Lax k hk'; omega)
  replace ka0 := cell_fr hf (fun hk => by have := fax _ hk; omega) ka0
  replace ja0 := cell_fr hf (fun hk => by have := fax _ hk; have := Lax _ hk; omega) ja0
  replace kb0 := cell_fr hf (fun hk => by have := fax _ hk; omega) kb0
  replace kb1 := cell_fr hf (fun hk => by have := fax _ hk; omega) kb1
  replace kb2 := cell_fr hf (fun hk => by have := fax _ hk; omega) kb2
  replace kb3 := cell_fr hf (fun hk => by have := fax _ hk; omega) kb3
  replace kb4 := cell_fr hf (fun hk => by have := fax _ hk; omega) kb4
  replace kb5 := cell_fr hf (fun hk => by have := fax _ hk; omega) kb5
  replace kb6 := cell_fr hf (fun hk => by have := fax _ hk; omega) kb6
  replace jb0 := cell_fr hf (fun hk => by have := fax _ hk; have := Lax _ hk; omega) jb0
  replace jb1 := cell_fr hf (fun hk => by have := fax _ hk; have := Lax _ hk; omega) jb1
  replace jb2 := cell_fr hf (fun hk => by have := fax _ hk; have := Lax _ hk; omega) jb2
  replace jb3 := cell_fr hf (fun hk => by have := fax _ hk; have := Lax _ hk; omega) jb3
  replace jb4 := cell_fr hf (fun hk => by have := fax _ hk; have := Lax _ hk; omega) jb4
  replace jb5 := cell_fr hf (fun hk => by have := fax _ hk; have := Lax _ hk; omega) jb5
  replace jb6 := cell_fr hf (fun hk => by have := fax _ hk; have := Lax _ hk; omega) jb6
  replace zka : w.heap.size < w14.heap.size := by omega
  replace zja : w6.heap.size < w14.heap.size := by omega
  replace zkb : w.heap.size + 1 < w14.heap.size := by omega
  replace zjb : w7.heap.size < w14.heap.size := by omega
  clear hf
  go_wp2_with fail
  have ct0 := cntFrame_le s0b
  have ct1 := cntInt_le s1b
  have ct6 := cntNote_le s6b
  refine (mkVmTop _ A0bx n0bx c0bx s0b A1bx n1bx c1bx s1b x2b x3b x4b x5b A6bx n6bx c6bx s6b rax F0bx F1bx F6bx o0bx o1bx o6bx ndbx (by omega) (by omega)).mono ?_
  rintro e w15 ⟨rbx, rfl, qr, om0, om1, om6, hf⟩
  clear om0 om1 om6
  have hr0bx : 0 ≤ rbx := by omega
  have hr1bx : rbx ≤ 2199023255552 := by omega
  clear qr
  clear ct0 ct1 ct6
  have zw15 := hf.size
  replace hb := below_fr hb hf (fun k hk => by have := fbx k hk; omega)
  replace h0a := h0a.fr hf (by omega) (fun k hk => Or.inr (by have := fbx k hk; omega))
  replace h0b := h0b.fr hf (by omega) (fun k hk => Or.inr (by have := fbx k hk; omega))
  replace h1b := h1b.fr hf (by omega) (fun k hk => Or.inr (by have := fbx k hk; omega))
  replace h6b := h6b.fr hf (by omega) (fun k hk => Or.inr (by have := fbx k hk; omega))
  replace ow := ow.fr hf (by omega) (fun k hk => Or.inr (by have := fbx k hk; omega))
  replace og := og.fr hf (fun k hk hk' => by have := fg k hk; have := Lg k hk; have := fbx k hk'; have := Lbx k hk'; omega)
  replace ka0 := cell_fr hf (fun hk => by have := fbx _ hk; omega) ka0
  replace ja0 := cell_fr hf (fun hk => by have := fbx _ hk; have := Lbx _ hk; omega) ja0
  replace kb0 := cell_fr hf (fun hk => by have := fbx _ hk; omega) kb0
  replace kb1 := cell_fr hf (fun hk => by have := fbx _ hk; omega) kb1
  replace kb2 := cell_fr hf (fun hk => by have := fbx _ hk; omega) kb2
  replace kb3 := cell_fr hf (fun hk => by have := fbx _ hk; omega) kb3
  replace kb4 := cell_fr hf (fun hk => by have := fbx _ hk; omega) kb4
  replace kb5 := cell_fr hf (fun hk => by have := fbx _ hk; omega) kb5
  replace kb6 := cell_fr hf (fun hk => by have := fbx _ hk; omega) kb6
  replace jb0 := cell_fr hf (fun hk => by have := fbx _ hk; have := Lbx _ hk; omega) jb0
  replace jb1 := cell_fr hf (fun hk => by have := fbx _ hk; have := Lbx _ hk; omega) jb1
  replace jb2 := cell_fr hf (fun hk => by have := fbx _ hk; have := Lbx _ hk; omega) jb2
  replace jb3 := cell_fr hf (fun hk => by have := fbx _ hk; have := Lbx _ hk; omega) jb3
  replace jb4 := cell_fr hf (fun hk => by have := fbx _ hk; have := Lbx _ hk; omega) jb4
  replace jb5 := cell_fr hf (fun hk => by have := fbx _ hk; have := Lbx _ hk; omega) jb5
  replace jb6 := cell_fr hf (fun hk => by have := fbx _ hk; have := Lbx _ hk; omega) jb6
  replace zka : w.heap.size < w15.heap.size := by omega
  replace zja : w6.heap.size < w15.heap.size := by omega
  replace zkb : w.heap.size + 1 < w15.heap.size := by omega
  replace zjb : w7.heap.size < w15.heap.size := by omega
  clear hf
  clear zja ja0
  clear zjb jb0 jb1 jb2 jb3 jb4 jb5 jb6
  go_wp2_with fail
  refine (lawsEqIntSS _ 0 _ 0 _ ng nw cg cw Ag Aw _ _ og.sl (ow.more (Nat.le_refl _) (by omega)) (Nat.le_refl _) (Nat.le_refl _)).mono ?_
  rintro e w16 ⟨rfl, b⟩
  have hx : Below w15.heap.size w15 w16 := by (repeat (first | with_reducible exact Below.refl _ _ | with_reducible assumption | with_reducible refine below_alloc ?_ _ | ((with_reducible refine Below.setCell ?_ ?_ _); rotate_left; (· first | exact Nat.le_refl _ | (simp; done) | (simp; omega))) | with_reducible refine below_drewN ?_ _ | with_reducible refine Below.drew ?_ | with_reducible refine below_then ?_ (by with_reducible assumption)))
  have zw16 := hx.size
  replace hb := below_then hb hx
  replace h0a := h0a.below hx (by omega)
  replace h0b := h0b.below hx (by omega)
  replace h1b := h1b.below hx (by omega)
  replace h6b := h6b.below hx (by omega)
  replace ow := ow.below hx (by omega)
  replace og := og.below hx
  replace ka0 := below_cell hx ka0
  replace kb0 := below_cell hx kb0
  replace kb1 := below_cell hx kb1
  replace kb2 := below_cell hx kb2
  replace kb3 := below_cell hx kb3
  replace kb4 := below_cell hx kb4
  replace kb5 := below_cell hx kb5
  replace kb6 := below_cell hx kb6
  replace zka : w.heap.size < w16.heap.size := by omega
  replace zkb : w.heap.size + 1 < w16.heap.size := by omega
  clear hx
  clear b
  have ct := cntIntL_le (puR s0a s0b s1b x2b x3b x4b x5b)
  have ct2 : cntL cntIntL (puR s0a s0b s1b x2b x3b x4b x5b) ≤ 17592186044416 := by have := hRes.out; omega
  clear ct
  go_wp2_with fail
  refine (mkIntLs _ ng cg Ag Fg _ 1 og (by omega) (by omega)).mono ?_
  rintro e w17 ⟨rm, rfl, qm, om, hf⟩
  have zw17 := hf.size
  replace hb := below_fr hb hf (fun k hk => by have := fg k hk; omega)
  replace h0a := h0a.fr hf (by omega) (fun k hk => Or.inr (by have := fg k hk; omega))
  replace h0b := h0b.fr hf (by omega) (fun k hk => Or.inr (by have := fg k hk; omega))
  replace h1b := h1b.fr hf (by omega) (fun k hk => Or.inr (by have := fg k hk; omega))
  replace h6b := h6b.fr hf (by omega) (fun k hk => Or.inr (by have := fg k hk; omega))
  replace ow := ow.fr hf (by omega) (fun k hk => Or.inr (by have := fg k hk; omega))
  replace ka0 := cell_fr hf (fun hk => by have := fg _ hk; omega) ka0
  replace kb0 := cell_fr hf (fun hk => by have := fg _ hk; omega) kb0
  replace kb1 := cell_fr hf (fun hk => by have := fg _ hk; omega) kb1
  replace kb2 := cell_fr hf (fun hk => by have := fg _ hk; omega) kb2
  replace kb3 := cell_fr hf (fun hk => by have := fg _ hk; omega) kb3
  replace kb4 := cell_fr hf (fun hk => by have := fg _ hk; omega) kb4
  replace kb5 := cell_fr hf (fun hk => by have := fg _ hk; omega) kb5
  replace kb6 := cell_fr hf (fun hk => by have := fg _ hk; omega) kb6
  replace zka : w.heap.size < w17.heap.size := by omega
  replace zkb : w.heap.size + 1 < w17.heap.size := by omega
  clear hf og
  have og := om
  clear om
  have pm : 0 ≤ rm := by omega
  replace qm := Lib.hid qm
  go_wp2_with fail
  refine (hdIntLs _ 0 _ ng cg Ag _ 1 og.sl (Nat.le_refl _) (by omega) (by omega)).mono ?_
  rintro e w18 ⟨rh, rfl, qh, b⟩
  have hx : Below w17.heap.size w17 w18 := by (repeat (first | with_reducible exact Below.refl _ _ | with_reducible assumption | with_reducible refine below_alloc ?_ _ | ((with_reducible refine Below.setCell ?_ ?_ _); rotate_left; (· first | exact Nat.le_refl _ | (simp; done) | (simp; omega))) | with_reducible refine below_drewN ?_ _ | with_reducible refine Below.drew ?_ | with_reducible refine below_then ?_ (by with_reducible assumption)))
  have zw18 := hx.size
  replace hb := below_then hb hx
  replace h0a := h0a.below hx (by omega)
  replace h0b := h0b.below hx (by omega)
  replace h1b := h1b.below hx (by omega)
  replace h6b := h6b.below hx (by omega)
  replace ow := ow.below hx (by omega)
  replace og := og.below hx
  replace ka0 := below_cell hx ka0
  replace kb0 := below_cell hx kb0
  replace kb1 := below_cell hx kb1
  replace kb2 := below_cell hx kb2
  replace kb3 := below_cell hx kb3
  replace kb4 := below_cell hx kb4
  replace kb5 := below_cell hx kb5
  replace kb6 := below_cell hx kb6
  replace zka : w.heap.size < w18.heap.size := by omega
  replace zkb : w.heap.size + 1 < w18.heap.size := by omega
  clear hx
  clear b
  obtain rfl : rm = rh := qm.out.trans qh.symm
  clear qh
  go_wp2_with fail
  go_region_held3 (fun W => W.cell? ⟨w.heap.size, 0, none⟩ = some (.slice A0a n0a c0a) ∧ W.cell? ⟨w.heap.size + 1, 0, none⟩ = some (.slice A0b n0b c0b) ∧ W.cell? ⟨w.heap.size + 1, 1, none⟩ = some (.slice A1b n1b c1b) ∧ W.cell? ⟨w.heap.size + 1, 2, none⟩ = some (.int .i64 x2b) ∧ W.cell? ⟨w.heap.size + 1, 3, none⟩ = some (.int .i64 x3b) ∧ W.cell? ⟨w.heap.size + 1, 4, none⟩ = some (.int .i64 x4b) ∧ W.cell? ⟨w.heap.size + 1, 5, none⟩ = some (.int .i64 x5b) ∧ W.cell? ⟨w.heap.size + 1, 6, none⟩ = some (.slice A6b n6b c6b))
    (first | exact ⟨ka0, kb0, kb1, kb2, kb3, kb4, kb5, kb6⟩ | exact ⟨below_cell bw19 ka0, below_cell bw19 kb0, below_cell bw19 kb1, below_cell bw19 kb2, below_cell bw19 kb3, below_cell bw19 kb4, below_cell bw19 kb5, below_cell bw19 kb6⟩ | exact ⟨below_cell bw20 (below_cell bw19 ka0), below_cell bw20 (below_cell bw19 kb0), below_cell bw20 (below_cell bw19 kb1), below_cell bw20 (below_cell bw19 kb2), below_cell bw20 (below_cell bw19 kb3), below_cell bw20 (below_cell bw19 kb4), below_cell bw20 (below_cell bw19 kb5), below_cell bw20 (below_cell bw19 kb6)⟩ | exact ⟨below_cell bw21 (below_cell bw20 (below_cell bw19 ka0)), below_cell bw21 (below_cell bw20 (below_cell bw19 kb0)), below_cell bw21 (below_cell bw20 (below_cell bw19 kb1)), below_cell bw21 (below_cell bw20 (below_cell bw19 kb2)), below_cell bw21 (below_cell bw20 (below_cell bw19 kb3)), below_cell bw21 (below_cell bw20 (below_cell bw19 kb4)), below_cell bw21 (below_cell bw20 (below_cell bw19 kb5)), below_cell bw21 (below_cell bw20 (below_cell bw19 kb6))⟩)
    (first | (go_at_call 11; ((with_reducible refine (lawsToImage _ 0 _ A0a n0a c0a s0a (h0a.up (by omega) (by (repeat (first | with_reducible exact Below.refl _ _ | with_reducible assumption | with_reducible refine below_alloc ?_ _ | ((with_reducible refine Below.setCell ?_ ?_ _); rotate_left; (· first | exact Nat.le_refl _ | (simp; done) | (simp; omega))) | with_reducible refine below_drewN ?_ _ | with_reducible refine Below.drew ?_ | with_reducible refine below_then ?_ (by with_reducible assumption))))) (Nat.le_refl _) mm0a ).mono ?_); rintro e w19 ⟨Faz, A0az, n0az, c0az, rfl, oaz, faz, bw19⟩)) | (go_at_call 23; ((with_reducible refine (lawsToVm _ 0 _ A0b n0b c0b s0b A1b n1b c1b s1b x2b x3b x4b x5b A6b n6b c6b s6b (h0b.up (by omega) (by (repeat (first | with_reducible exact Below.refl _ _ | with_reducible assumption | with_reducible refine below_alloc ?_ _ | ((with_reducible refine Below.setCell ?_ ?_ _); rotate_left; (· first | exact Nat.le_refl _ | (simp; done) | (simp; omega))) | with_reducible refine below_drewN ?_ _ | with_reducible refine Below.drew ?_ | with_reducible refine below_then ?_ (by with_reducible assumption))))) (h1b.up (by omega) (by (repeat (first | with_reducible exact Below.refl _ _ | with_reducible assumption | with_reducible refine below_alloc ?_ _ | ((with_reducible refine Below.setCell ?_ ?_ _); rotate_left; (· first | exact Nat.le_refl _ | (simp; done) | (simp; omega))) | with_reducible refine below_drewN ?_ _ | with_reducible refine Below.drew ?_ | with_reducible refine below_then ?_ (by with_reducible assumption))))) (h6b.up (by omega) (by (repeat (first | with_reducible exact Below.refl _ _ | with_reducible assumption | with_reducible refine below_alloc ?_ _ | ((with_reducible refine Below.setCell ?_ ?_ _); rotate_left; (· first | exact Nat.le_refl _ | (simp; done) | (simp; omega))) | with_reducible refine below_drewN ?_ _ | with_reducible refine Below.drew ?_ | with_reducible refine below_then ?_ (by with_reducible assumption))))) (Nat.le_refl _) mm0b mm1b mm6b i2b i3b i4b i5b).mono ?_); rintro e w20 ⟨Fbz, A0bz, n0bz, c0bz, A1bz, n1bz, c1bz, A6bz, n6bz, c6bz, rfl, obz, fbz, bw20⟩)) | (go_at_call 27; ((with_reducible refine (implPadsUpO _ A0az n0az c0az s0a A0bz n0bz c0bz s0b A1bz n1bz c1bz s1b x2b x3b x4b x5b A6bz n6bz c6bz s6b ((Image_sl0 oaz).next (by (repeat (first | with_reducible exact Below.refl _ _ | with_reducible assumption | with_reducible refine below_alloc ?_ _ | ((with_reducible refine Below.setCell ?_ ?_ _); rotate_left; (· first | exact Nat.le_refl _ | (simp; done) | (simp; omega))) | with_reducible refine below_drewN ?_ _ | with_reducible refine Below.drew ?_ | with_reducible refine below_then ?_ (by with_reducible assumption))))) mm0a ((Vm_sl0 obz).next (by (repeat (first | with_reducible exact Below.refl _ _ | with_reducible assumption | with_reducible refine below_alloc ?_ _ | ((with_reducible refine Below.setCell ?_ ?_ _); rotate_left; (· first | exact Nat.le_refl _ | (simp; done) | (simp; omega))) | with_reducible refine below_drewN ?_ _ | with_reducible refine Below.drew ?_ | with_reducible refine below_then ?_ (by with_reducible assumption))))) ((Vm_sl1 obz).next (by (repeat (first | with_reducible exact Below.refl _ _ | with_reducible assumption | with_reducible refine below_alloc ?_ _ | ((with_reducible refine Below.setCell ?_ ?_ _); rotate_left; (· first | exact Nat.le_refl _ | (simp; done) | (simp; omega))) | with_reducible refine below_drewN ?_ _ | with_reducible refine Below.drew ?_ | with_reducible refine below_then ?_ (by with_reducible assumption))))) ((Vm_sl6 obz).next (by (repeat (first | with_reducible exact Below.refl _ _ | with_reducible assumption | with_reducible refine below_alloc ?_ _ | ((with_reducible refine Below.setCell ?_ ?_ _); rotate_left; (· first | exact Nat.le_refl _ | (simp; done) | (simp; omega))) | with_reducible refine below_drewN ?_ _ | with_reducible refine Below.drew ?_ | with_reducible refine below_then ?_ (by with_reducible assumption))))) mm0b mm1b mm6b i2b i3b i4b i5b).mono ?_); rintro e w21 ⟨Fh, Ah, nh, ch, rfl, oh, fh, bw21⟩)))
  have hx : Below w18.heap.size w18 w21 := by (repeat (first | with_reducible exact Below.refl _ _ | with_reducible assumption | with_reducible refine below_alloc ?_ _ | ((with_reducible refine Below.setCell ?_ ?_ _); rotate_left; (· first | exact Nat.le_refl _ | (simp; done) | (simp; omega))) | with_reducible refine below_drewN ?_ _ | with_reducible refine Below.drew ?_ | with_reducible refine below_then ?_ (by with_reducible assumption)))
  have zw21 := hx.size
  replace hb := below_then hb hx
  replace h0a := h0a.below hx (by omega)
  replace h0b := h0b.below hx (by omega)
  replace h1b := h1b.below hx (by omega)
  replace h6b := h6b.below hx (by omega)
  replace ow := ow.below hx (by omega)
  replace og := og.below hx
  replace ka0 := below_cell hx ka0
  replace kb0 := below_cell hx kb0
  replace kb1 := below_cell hx kb1
  replace kb2 := below_cell hx kb2
  replace kb3 := below_cell hx kb3
  replace kb4 := below_cell hx kb4
  replace kb5 := below_cell hx kb5
  replace kb6 := below_cell hx kb6
  replace zka : w.heap.size < w21.heap.size := by omega
  replace zkb : w.heap.size + 1 < w21.heap.size := by omega
  clear hx
  clear bw21 bw20 bw19
  clear oaz faz
  clear obz fbz
  go_wp2_with fail
  refine (lawsEqIntSS _ 0 _ 0 _ nh nw ch cw Ah Aw _ _ oh.sl (ow.more (Nat.le_refl _) (by omega)) (Nat.le_refl _) (Nat.le_refl _)).mono ?_
  rintro e w22 ⟨rfl, b⟩
  have hx : Below w21.heap.size w21 w22 := by (repeat (first | with_reducible exact Below.refl _ _ | with_reducible assumption | with_reducible refine below_alloc ?_ _ | ((with_reducible refine Below.setCell ?_ ?_ _); rotate_left; (· first | exact Nat.le_refl _ | (simp; done) | (simp; omega))) | with_reducible refine below_drewN ?_ _ | with_reducible refine Below.drew ?_ | with_reducible refine below_then ?_ (by with_reducible assumption)))
  have zw22 := hx.size
  replace hb := below_then hb hx
  replace h0a := h0a.below hx (by omega)
  replace h0b := h0b.below hx (by omega)
  replace h1b := h1b.below hx (by omega)
  replace h6b := h6b.below hx (by omega)
  replace ow := ow.below hx (by omega)
  replace og := og.below hx
  replace oh := oh.below hx
  replace ka0 := below_cell hx ka0
  replace kb0 := below_cell hx kb0
  replace kb1 := below_cell hx kb1
  replace kb2 := below_cell hx kb2
  replace kb3 := below_cell hx kb3
  replace kb4 := below_cell hx kb4
  replace kb5 := below_cell hx kb5
  replace kb6 := below_cell hx kb6
  replace zka : w.heap.size < w22.heap.size := by omega
  replace zkb : w.heap.size + 1 < w22.heap.size := by omega
  clear hx
  clear b
  clear oh fh
  go_wp2_with fail
  refine (hdIntLs _ 0 _ ng cg Ag _ 1 og.sl (Nat.le_refl _) (by omega) (by omega)).mono ?_
  rintro e w23 ⟨rh, rfl, qh, b⟩
  have hx : Below w22.heap.size w22 w23 := by (repeat (first | with_reducible exact Below.refl _ _ | with_reducible assumption | with_reducible refine below_alloc ?_ _ | ((with_reducible refine Below.setCell ?_ ?_ _); rotate_left; (· first | exact Nat.le_refl _ | (simp; done) | (simp; omega))) | with_reducible refine below_drewN ?_ _ | with_reducible refine Below.drew ?_ | with_reducible refine below_then ?_ (by with_reducible assumption)))
  have zw23 := hx.size
  replace hb := below_then hb hx
  replace h0a := h0a.below hx (by omega)
  replace h0b := h0b.below hx (by omega)
  replace h1b := h1b.below hx (by omega)
  replace h6b := h6b.below hx (by omega)
  replace ow := ow.below hx (by omega)
  replace og := og.below hx
  replace ka0 := below_cell hx ka0
  replace kb0 := below_cell hx kb0
  replace kb1 := below_cell hx kb1
  replace kb2 := below_cell hx kb2
  replace kb3 := below_cell hx kb3
  replace kb4 := below_cell hx kb4
  replace kb5 := below_cell hx kb5
  replace kb6 := below_cell hx kb6
  replace zka : w.heap.size < w23.heap.size := by omega
  replace zkb : w.heap.size + 1 < w23.heap.size := by omega
  clear hx
  clear b
  obtain rfl : rm = rh := qm.out.trans qh.symm
  clear qh
  go_wp2_with fail
  go_ret
  exact RetB.mk rfl hb

theorem fnPadsUpA (w : World) (csa : Array Value) (ea : Image) (hla : ImageR.rel w 0 w.heap.size csa.toList ea) (csb : Array Value) (eb : Vm) (hlb : VmR.rel w 0 w.heap.size csb.toList eb) :
    Calls Tryz.prog 6 #[.agg csa, .agg csb] w (RetB true w) := by
  obtain ⟨A0a, n0a, c0a, s0a, hca, hea, h0a⟩ := Image_rel hla
  obtain ⟨csa⟩ := csa
  simp only at hca
  subst hca hea
  obtain ⟨A0b, n0b, c0b, s0b, A1b, n1b, c1b, s1b, x2b, x3b, x4b, x5b, A6b, n6b, c6b, s6b, hcb, heb, h0b, h1b, i2b, i3b, i4b, i5b, h6b⟩ := Vm_rel hlb
  obtain ⟨csb⟩ := csb
  simp only at hcb
  subst hcb heb
  exact fnPadsUp w A0a n0a c0a ea A0b n0b c0b s0b A1b n1b c1b s1b x2b x3b x4b x5b A6b n6b c6b s6b h0a  h0b h1b h6b i2b i3b i4b i5b

end Go.Proofs.YtmnkgcjbckamnaaGreat
