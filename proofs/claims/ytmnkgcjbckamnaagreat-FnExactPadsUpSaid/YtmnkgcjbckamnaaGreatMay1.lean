/- Whether a code recovers: walks of both sides. -/
import Derived.Test.YtmnkgcjbckamnaaGreatGoodVP
import Derived.Test.YtmnkgcjbckamnaaGreatTyIm
set_option linter.unusedVariables false
set_option linter.unusedSimpArgs false
set_option maxRecDepth 100000
namespace Go.Proofs.YtmnkgcjbckamnaaGreat
open Go.RowKit
attribute [local irreducible] wpList
def recI (i : Ins) : Bool := i.1 == 6
def recB (c : Code) : Bool := c.2.2.2.1.any recI
theorem implRecovers1 (w : World) (o k : Int) : Calls Tryz.prog 170 #[.agg #[.int .i64 o, .int .i64 k]] w (RetB (recI (o, k)) w) := by
  go_enter Tryz.func170, Tryz.ntmps170
  go_wp2_with fail
  go_ret
  exact RetB.mk rfl (by (repeat (first | with_reducible exact Below.refl _ _ | with_reducible assumption | with_reducible refine below_alloc ?_ _ | ((with_reducible refine Below.setCell ?_ ?_ _); rotate_left; (· first | exact Nat.le_refl _ | (simp; done) | (simp; omega))) | with_reducible refine below_drewN ?_ _ | with_reducible refine Below.drew ?_ | with_reducible refine below_then ?_ (by with_reducible assumption))))
theorem implRecovers (w : World) (lo hi : Nat) (x0 x1 : Int) (v2 v4 : Value) (A3 : Option Addr) (n3 c3 : Nat) (I : List Ins) (h3 : Sl InsR w lo hi A3 n3 c3 I) (hh : hi ≤ w.heap.size) :
    Calls Tryz.prog 109 #[.agg #[.int .i64 x0, .int .i64 x1, v2, .slice A3 n3 c3, v4]] w (RetB (I.any recI) w) := by
  go_enter Tryz.func109, Tryz.ntmps109
  go_wp2_with fail
  refine (conFuncIns 170 #[] recI _ lo hi n3 c3 A3 I (h3.below (show Below w.heap.size w _ by (repeat (first | with_reducible exact Below.refl _ _ | with_reducible assumption | with_reducible refine below_alloc ?_ _ | ((with_reducible refine Below.setCell ?_ ?_ _); rotate_left; (· first | exact Nat.le_refl _ | (simp; done) | (simp; omega))) | with_reducible refine below_drewN ?_ _ | with_reducible refine Below.drew ?_ | with_reducible refine below_then ?_ (by with_reducible assumption)))) hh) (by first | omega | (simp; done) | (simp; omega)) (fun _ _ => by kernel_rfl) (fun W o k _ hW _ _ => implRecovers1 W o k)).mono ?_
  rintro e w2 ⟨rfl, hb⟩
  go_wp2_with fail
  go_ret
  exact RetB.mk rfl (by (repeat (first | with_reducible exact Below.refl _ _ | with_reducible assumption | with_reducible refine below_alloc ?_ _ | ((with_reducible refine Below.setCell ?_ ?_ _); rotate_left; (· first | exact Nat.le_refl _ | (simp; done) | (simp; omega))) | with_reducible refine below_drewN ?_ _ | with_reducible refine Below.drew ?_ | with_reducible refine below_then ?_ (by with_reducible assumption))))
set_option maxHeartbeats 4000000 in
theorem specL9Recovers (w : World) (lo hi : Nat) (A : Option Addr) (n c : Nat) (x : List Code) (k : Nat) (h : Sl CodeR w lo hi A n c x) (hh : hi ≤ w.heap.size) (hk : k < n) :
    Calls Tryz.prog 105 #[.agg #[.slice A n c], .int .i64 k] w (RetB ((x[k]'(by have := h.lenEq; omega)).2.2.2.1.any recI) w) := by
  have hkx : k < x.length := by have := h.lenEq; omega
  obtain ⟨bc, oc, z0, z1, D2, m2, d2, t2, D3, m3, d3, t3, D4, m4, d4, t4, rfl, _, hbb, hlc, _, _, kS2, kS3, kS4, v0, v1, v2, v3, v4⟩ := Code_at h hk
  obtain ⟨res, R⟩ : ∃ r, (x[k]'hkx).2.2.2.1.any recI = r := ⟨_, rfl⟩
  rw [R]
  rw [hlc] at R
  simp only at R
  replace R := Lib.hid R
  have HL := Lib.hid kS3.lenEq
  have hkI : (k : Int) < (n : Int) := by omega
  have hbw : bc < w.heap.size := by omega
  have hm3b := kS3.lenLe
  clear hlc v0 v1 v2 v4
  go_enter Tryz.func105, Tryz.ntmps105
  go_wp2_with fail
  go_loopw [14] (fun i wr => ∃ q : Nat, q ≤ m3 ∧ i = .int .i64 q ∧ (t3.take q).any recI = false ∧ Below w.heap.size w wr) (fun i _ => m3 - (intOf i).toNat)
  case atStart => exact ⟨0, Nat.zero_le _, rfl, by simp, by (repeat (first | with_reducible exact Below.refl _ _ | with_reducible assumption | with_reducible refine below_alloc ?_ _ | ((with_reducible refine Below.setCell ?_ ?_ _); rotate_left; (· first | exact Nat.le_refl _ | (simp; done) | (simp; omega))) | with_reducible refine below_drewN ?_ _ | with_reducible refine Below.drew ?_ | with_reducible refine below_then ?_ (by with_reducible assumption)))⟩
  case round =>
    obtain ⟨q, hq, rfl, ht0, hb⟩ := hrel
    have ht := Lib.hid ht0
    clear ht0
    have hbs := hb.size
    by_cases hlt : q < m3
    · obtain ⟨bi, oi, op, nn, rfl, _, hbi, hli, _, _, r0, r1⟩ := Ins_at (kS3.below hb hh) hlt
      have hqi : q < t3.length := by have := HL.out; omega
      obtain ⟨a6, E6⟩ : ∃ r, (op == 6) = r := ⟨_, rfl⟩
      have hrec : recI t3[q] = a6 := by rw [hli]; exact E6
      have hbiw : bi < wr.heap.size := by have := hb.size; omega
      cases a6
      · have hs := Lib.hid (show (t3.take (q + 1)).any recI = false by rw [List.take_succ_eq_append_getElem hqi, List.any_append, ht.out]; simpa using hrec)
        clear hrec hli
        go_wp2_with fail
        go_roundw
        case rel => exact ⟨q + 1, by omega, by go_num, hs.out, by (repeat (first | with_reducible exact Below.refl _ _ | with_reducible assumption | with_reducible refine below_alloc ?_ _ | ((with_reducible refine Below.setCell ?_ ?_ _); rotate_left; (· first | exact Nat.le_refl _ | (simp; done) | (simp; omega))) | with_reducible refine below_drewN ?_ _ | with_reducible refine Below.drew ?_ | with_reducible refine below_then ?_ (by with_reducible assumption)))⟩
        case measure => simp [intOf]; omega
      · have hn := Lib.hid (show res = true by rw [← R.out]; exact List.any_eq_true.2 ⟨_, List.getElem_mem hqi, hrec⟩)
        clear hrec hli
        go_wp2_with fail
        go_ret
        exact RetB.mk hn.out.symm (by (repeat (first | with_reducible exact Below.refl _ _ | with_reducible assumption | with_reducible refine below_alloc ?_ _ | ((with_reducible refine Below.setCell ?_ ?_ _); rotate_left; (· first | exact Nat.le_refl _ | (simp; done) | (simp; omega))) | with_reducible refine below_drewN ?_ _ | with_reducible refine Below.drew ?_ | with_reducible refine below_then ?_ (by with_reducible assumption))))
    · have hn := Lib.hid (show res = false by rw [← R.out]; have := ht.out; rwa [List.take_of_length_le (by have := HL.out; omega)] at this)
      go_wp2_with fail
      go_ret
      exact RetB.mk hn.out.symm (by (repeat (first | with_reducible exact Below.refl _ _ | with_reducible assumption | with_reducible refine below_alloc ?_ _ | ((with_reducible refine Below.setCell ?_ ?_ _); rotate_left; (· first | exact Nat.le_refl _ | (simp; done) | (simp; omega))) | with_reducible refine below_drewN ?_ _ | with_reducible refine Below.drew ?_ | with_reducible refine below_then ?_ (by with_reducible assumption))))
end Go.Proofs.YtmnkgcjbckamnaaGreat
