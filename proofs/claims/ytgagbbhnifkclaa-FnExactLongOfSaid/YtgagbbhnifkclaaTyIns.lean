/- Ins: how it lies in cells; the laws' own helpers over it. Printed by typegen.py. Walks. -/
import Derived.Test.YtgagbbhnifkclaaUtil
import Derived.Test.YtgagbbhnifkclaaLawKit
import Derived.Deep.RegionHeld3
set_option linter.unusedVariables false
set_option linter.unusedSimpArgs false
set_option maxRecDepth 100000
namespace Go.Proofs.Ytgagbbhnifkclaa
open Go.RowKit

abbrev Ins := Int × Int
def InsR : Rp Ins := pairR intR (intR)
theorem Ins_rel {w : World} {lo hi : Nat} {cs : List Value} {x : Ins} (h : InsR.rel w lo hi cs x) : ∃ x0 x1, cs = ([.int .i64 x0, .int .i64 x1] : List Value) ∧ x = (x0, x1) ∧ I64 x0 ∧ I64 x1 := by
  obtain ⟨_, _, rfl, ⟨rfl, i0⟩, ⟨rfl, i1⟩⟩ := h
  exact ⟨x.1, x.2, rfl, rfl, i0, i1⟩
theorem Ins_own (w : World) (x0 : Int) (x1 : Int) (i0 : I64 x0) (i1 : I64 x1) : InsR.own w [] [.int .i64 x0, .int .i64 x1] (x0, x1) := ⟨[_], [_], [], [], rfl, rfl, ⟨rfl, rfl, i0⟩, ⟨rfl, rfl, i1⟩, by simp⟩
theorem Ins_at {w : World} {lo hi : Nat} {A : Option Addr} {n c k : Nat} {l : List Ins} (h : Sl InsR w lo hi A n c l) (hk : k < n) :
    ∃ b off x0 x1, A = some ⟨b, off, none⟩ ∧ lo ≤ b ∧ b < hi ∧ l[k]'(by have := h.1; omega) = (x0, x1) ∧ I64 x0 ∧ I64 x1 ∧ w.cell? ⟨b, off + k * 2, none⟩ = some (.int .i64 x0) ∧ w.cell? ⟨b, off + k * 2 + 1, none⟩ = some (.int .i64 x1) := by
  obtain ⟨b, off, cs, rfl, hb1, hb2, hr, hc⟩ := h.at_ hk
  obtain ⟨x0, x1, rfl, hx, i0, i1⟩ := Ins_rel hr
  exact ⟨b, off, x0, x1, rfl, hb1, hb2, hx, i0, i1, hc 0 (by simp), hc 1 (by simp)⟩
theorem rdIns : Rd Try.prog 170 InsR := rd_struct Try.underlying170 (by kernel_rfl) (rdF_cons rfl (by kernel_rfl) (rd_int Try.underlying3) (rdF_one rfl (by kernel_rfl) (rd_int Try.underlying3)) (by decide))
theorem rdInss : Rd Try.prog 34 (sliceR 165 InsR) := rd_slice Try.underlying34 (by kernel_rfl) (by decide) rdIns
theorem lawsToIns (w : World) (x0 : Int) (x1 : Int) :
    Calls Try.prog 139 #[.agg #[.int .i64 x0, .int .i64 x1]] w fun e w' => e = .returned (.agg #[.int .i64 x0, .int .i64 x1]) ∧ Below w.heap.size w w' := by
  go_enter Try.func139, Try.ntmps139
  go_wp2
  refine bodyPost_ret (v := .agg #[.int .i64 x0, .int .i64 x1]) (by simp [results, Try.results139, go_sem]) rfl ⟨rfl, by (repeat (first | with_reducible exact Below.refl _ _ | with_reducible assumption | with_reducible refine below_alloc ?_ _ | ((with_reducible refine Below.setCell ?_ ?_ _); rotate_left; (· first | exact Nat.le_refl _ | (simp; done) | (simp; omega))) | with_reducible refine below_drewN ?_ _ | with_reducible refine Below.drew ?_ | with_reducible refine below_then ?_ (by with_reducible assumption)))⟩
theorem Try.infoIns : (Try.prog.info? 165).map (fun i => (i.zero, i.size, i.bytes)) = some (some (.agg #[.int .i64 0, .int .i64 0]), 2, 16) := by kernel_rfl
theorem lawsToInsS (w : World) (lo hi n c : Nat) (A : Option Addr) (l : List Ins) (h : Sl InsR w lo hi A n c l) (hh : hi ≤ w.heap.size) (hn : n ≤ 1048576) :
    Calls Try.prog 83 #[.slice A n c] w (RetOwn InsR 165 l w) := by
  have e1 := h.lenEq
  obtain ⟨inf, hif, hz0, hz1, hz2⟩ := info_parts Try.infoIns
  go_enter Try.func83, Try.ntmps83
  go_wp2_with (at_make; refine wpList_make_full _ rfl _ _ 41 rfl 0 165 inf (.agg #[.int .i64 0, .int .i64 0]) 2 Try.underlying41 hif hz0 hz1 _ _ _ _ n rfl rfl rfl rfl (by rw [hz2]; omega) (by unfold maxLen; omega) (Nat.zero_le _) ?_)
  intro w1 hown hg
  have hF := Fill.start (R := InsR) hown
  have hb0 : Below w.heap.size w w1 := (Below.refl _ _).grown hg (Nat.le_refl _) (fun k hk => by cases hk)
  clear hown hg
  go_wp2
  go_loopw [4] (fun i wr => ∃ (k : Nat) (F : List Nat), k ≤ n ∧ i = .int .i64 k ∧ Fill InsR wr 165 F w.heap.size n (l.take k) ∧ (∀ j, j ∈ F → w.heap.size ≤ j) ∧ Below w.heap.size w wr) (fun i _ => n - (intOf i).toNat)
  case atStart => exact ⟨0, _, Nat.zero_le _, rfl, hF, by simp, hb0⟩
  case round =>
    obtain ⟨k, F, hk, rfl, hF, hge, hb⟩ := hrel
    by_cases hlt : k < n
    · obtain ⟨b, o, x0, x1, rfl, _, _, hl0, i0, i1, d0, d1⟩ := Ins_at (h.below hb hh) hlt
      have hl := Lib.hid hl0
      clear hl0
      have hbs := hb.size
      go_wp2_with fail
      refine (lawsToIns _ x0 x1).mono ?_
      rintro e w2 ⟨rfl, hb2⟩
      have hF2 := hF.below hb2
      have hlk : (l.take k).length = k := by simp; omega
      obtain ⟨u0, hu0⟩ : ∃ u, w2.cell? ⟨w.heap.size, k * 2, none⟩ = some u := hF2.cell' hlk hlt (j := 0) (by decide)
      obtain ⟨u1, hu1⟩ : ∃ u, w2.cell? ⟨w.heap.size, k * 2 + 1, none⟩ = some u := hF2.cell' hlk hlt (j := 1) (by decide)
      have f0 := hF2.frozen (k * 2)
      have f1 := hF2.frozen (k * 2 + 1)
      have hst := hF2.step' (Fx := []) (cs := [.int .i64 x0, .int .i64 x1]) e1 hlt (by rw [hl.out]; exact Ins_own _ x0 x1 i0 i1) (by simp)
      have hb3 := below_setCells w.heap.size (Nat.le_refl _) [.int .i64 x0, .int .i64 x1] (k * 2) w2 (below_then hb hb2)
      have hge2 : ∀ j, j ∈ F ++ [] → w.heap.size ≤ j := fun j hj => by
        rcases List.mem_append.1 hj with hj | hj
        · exact hge j hj
        · simp at hj
      go_wp2
      go_roundw
      case rel => exact ⟨k + 1, _, by omega, by go_num, hst, hge2, hb3⟩
      case measure => simp [intOf]; omega
    · go_wp2
      go_ret
      exact RetOwn.mk rfl (hF.all e1 (by omega)) hge hb
theorem lawsEqIns (w : World) (lo hi lo' hi' : Nat) (x0 : Int) (x1 : Int) (x0' : Int) (x1' : Int)   (hh : hi ≤ w.heap.size) (hh' : hi' ≤ w.heap.size) :
    Calls Try.prog 152 #[.agg #[.int .i64 x0, .int .i64 x1], .agg #[.int .i64 x0', .int .i64 x1']] w (RetB (eqB (x0, x1) (x0', x1')) w) := by
  go_enter Try.func152, Try.ntmps152
  go_wp2_with fail
  all_goals (go_ret; exact RetB.mk (by simp_all [eqB]) (by (repeat (first | with_reducible exact Below.refl _ _ | with_reducible assumption | with_reducible refine below_alloc ?_ _ | ((with_reducible refine Below.setCell ?_ ?_ _); rotate_left; (· first | exact Nat.le_refl _ | (simp; done) | (simp; omega))) | with_reducible refine below_drewN ?_ _ | with_reducible refine Below.drew ?_ | with_reducible refine below_then ?_ (by with_reducible assumption)))))
theorem lawsEqInsS (w : World) (lo hi lo' hi' n n' c c' : Nat) (A A' : Option Addr) (l l' : List Ins) (h : Sl InsR w lo hi A n c l) (h' : Sl InsR w lo' hi' A' n' c' l') (hh : hi ≤ w.heap.size) (hh' : hi' ≤ w.heap.size) :
    Calls Try.prog 86 #[.slice A n c, .slice A' n' c'] w (RetB (eqB l l') w) := by
  have e1 := h.lenEq
  have e2 := h'.lenEq
  have b1 := h.lenLe
  have b2 := h'.lenLe
  by_cases hn : n = n'
  · subst hn
    have hn' : ((n : Int) != (n : Int)) = false := by simp
    go_enter Try.func86, Try.ntmps86
    go_wp2
    go_loopw [5] (fun i wr => ∃ k : Nat, k ≤ n ∧ i = .int .i64 k ∧ l.take k = l'.take k ∧ Below w.heap.size w wr) (fun i _ => n - (intOf i).toNat)
    case atStart => exact ⟨0, Nat.zero_le _, rfl, rfl, Below.refl _ _⟩
    case round =>
      obtain ⟨k, hk, rfl, ht0, hb⟩ := hrel
      have ht := Lib.hid ht0
      clear ht0
      have hbs := hb.size
      by_cases hlt : k < n
      · obtain ⟨b, o, x0, x1, rfl, _, _, hl0, i0, i1, d0, d1⟩ := Ins_at (h.below hb hh) hlt
        obtain ⟨b', o', x0', x1', rfl, _, _, hl0', i0', i1', d0', d1'⟩ := Ins_at (h'.below hb hh') hlt
        have hl := Lib.hid hl0
        have hl' := Lib.hid hl0'
        clear hl0 hl0'
        have hst := Lib.hid (fun (he : l[k]'(by omega) = l'[k]'(by omega)) => take_eq_snoc ht.out (by omega) (by omega) he)
        have hne := Lib.hid (fun (he : ¬ l[k]'(by omega) = l'[k]'(by omega)) => ne_of_at (by omega) (by omega) he)
        by_cases he0 : (x0, x1) = (x0', x1')
        · have hd := eqB_true he0
          have hs := Lib.hid (hst.out (by rw [hl.out, hl'.out, he0]))
          clear he0
          go_wp2_with fail
          go_region_held3 (fun w' => w'.cell? ⟨b, o + k * 2, none⟩ = some (.int .i64 x0) ∧ w'.cell? ⟨b, o + k * 2 + 1, none⟩ = some (.int .i64 x1) ∧ w'.cell? ⟨b', o' + k * 2, none⟩ = some (.int .i64 x0') ∧ w'.cell? ⟨b', o' + k * 2 + 1, none⟩ = some (.int .i64 x1')) (first | exact ⟨d0, d1, d0', d1'⟩ | exact ⟨below_cell hb2 d0, below_cell hb2 d1, below_cell hb2 d0', below_cell hb2 d1'⟩)
            (first | (go_at_call 152; refine (lawsEqIns _ lo hi lo' hi' x0 x1 x0' x1'   (by first | omega | (simp; omega)) (by first | omega | (simp; omega))).mono ?_; rintro e w2 ⟨rfl, hb2⟩))
          have hb3 := below_then hb.drew hb2
          go_wp2_with fail
          go_roundw
          case rel => exact ⟨k + 1, by omega, by go_num, hs.out, hb3⟩
          case measure => simp [intOf]; omega
        · have hd := eqB_false he0
          have hs := Lib.hid (eqB_false (hne.out (by rw [hl.out, hl'.out]; exact he0)))
          clear he0
          go_wp2_with fail
          go_region_held3 (fun w' => w'.cell? ⟨b, o + k * 2, none⟩ = some (.int .i64 x0) ∧ w'.cell? ⟨b, o + k * 2 + 1, none⟩ = some (.int .i64 x1) ∧ w'.cell? ⟨b', o' + k * 2, none⟩ = some (.int .i64 x0') ∧ w'.cell? ⟨b', o' + k * 2 + 1, none⟩ = some (.int .i64 x1')) (first | exact ⟨d0, d1, d0', d1'⟩ | exact ⟨below_cell hb2 d0, below_cell hb2 d1, below_cell hb2 d0', below_cell hb2 d1'⟩)
            (first | (go_at_call 152; refine (lawsEqIns _ lo hi lo' hi' x0 x1 x0' x1'   (by first | omega | (simp; omega)) (by first | omega | (simp; omega))).mono ?_; rintro e w2 ⟨rfl, hb2⟩))
          have hb3 := below_then hb.drew hb2
          go_wp2_with fail
          go_ret
          exact RetB.mk hs.out.symm hb3
      · go_wp2_with fail
        go_ret
        exact RetB.mk (eqB_true (eq_of_takes ht.out (by omega) (by omega))).symm hb
  · have hn' : ((n : Int) != (n' : Int)) = true := by simp; omega
    have hd := Lib.hid (eqB_false (x := l) (y := l') (by rintro rfl; omega))
    go_enter Try.func86, Try.ntmps86
    go_wp2
    go_ret
    exact RetB.mk hd.out.symm (Below.refl _ _)
theorem lawsSzInsS (w : World) (n c : Nat) (A : Option Addr) (left : Int) (h1 : 0 ≤ left) (h2 : left ≤ 1048576) (hn : n ≤ 9223372036854775807) :
    Calls Try.prog 79 #[.slice A n c, .int .i64 left] w (RetSz left n w) := by
  by_cases h : (n : Int) ≤ left
  · go_enter Try.func79, Try.ntmps79
    go_wp2
    go_ret
    exact ⟨_, rfl, Or.inr ⟨by omega, rfl⟩, Below.refl _ _⟩
  · have hd : decide (left - (n : Int) < 0) = true := by simp; omega
    go_enter Try.func79, Try.ntmps79
    go_wp2
    go_ret
    exact ⟨_, rfl, Or.inl rfl, Below.refl _ _⟩
end Go.Proofs.Ytgagbbhnifkclaa
