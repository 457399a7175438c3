/- A list of lists of ints: how it lies in cells; whether two are the same. Walks. -/
import Derived.Test.YtmnkgcjbckamnaaGreatKit1
import Derived.Deep.RegionHeld3
set_option linter.unusedVariables false
set_option linter.unusedSimpArgs false
set_option linter.unnecessarySimpa false
set_option maxRecDepth 100000
namespace Go.Proofs.YtmnkgcjbckamnaaGreat
open Go.RowKit

abbrev IntL := List Int
def IntLR : Rp IntL := sliceR 3 intR
def mszIntL (x : IntL) : Nat := x.length
def mszLIntL (l : List IntL) : Nat := l.length + (l.map mszIntL).sum
theorem mszLIntL_len (l : List IntL) : l.length ≤ mszLIntL l := by unfold mszLIntL; omega
theorem IntL_rel {w : World} {lo hi : Nat} {cs : List Value} {x : IntL} (h : IntLR.rel w lo hi cs x) : ∃ A0 n0 c0 s0, cs = ([.slice A0 n0 c0] : List Value) ∧ x = s0 ∧ Sl intR w lo hi A0 n0 c0 s0 := by
  obtain ⟨A0, n0, c0, rfl, h0⟩ := h
  exact ⟨A0, n0, c0, x, rfl, rfl, h0⟩
theorem IntL_at {w : World} {lo hi : Nat} {A : Option Addr} {n c k : Nat} {l : List IntL} (h : Sl IntLR w lo hi A n c l) (hk : k < n) :
    ∃ b off A0 n0 c0 s0, A = some ⟨b, off, none⟩ ∧ lo ≤ b ∧ b < hi ∧ l[k]'(by have := h.1; omega) = s0 ∧ Sl intR w lo hi A0 n0 c0 s0 ∧ w.cell? ⟨b, off + k, none⟩ = some (.slice A0 n0 c0) := by
  obtain ⟨b, off, cs, rfl, hb1, hb2, hr, hc⟩ := h.at_ hk
  obtain ⟨A0, n0, c0, s0, rfl, hx, h0⟩ := IntL_rel hr
  have h0c := hc 0 (by simp)
  simp only [show IntLR.size = 1 from rfl, Nat.mul_one, Nat.add_zero] at h0c
  exact ⟨b, off, A0, n0, c0, s0, rfl, hb1, hb2, hx, h0, h0c⟩
set_option maxHeartbeats 2000000 in
theorem lawsEqIntSS (w : World) (lo hi lo' hi' n n' c c' : Nat) (A A' : Option Addr) (l l' : List IntL) (h : Sl IntLR w lo hi A n c l) (h' : Sl IntLR w lo' hi' A' n' c' l') (hh : hi ≤ w.heap.size) (hh' : hi' ≤ w.heap.size) :
    Calls Tryz.prog 28 #[.slice A n c, .slice A' n' c'] w (RetB (eqB l l') w) := by
  have e1 := h.lenEq
  have e2 := h'.lenEq
  have b1 := h.lenLe
  have b2 := h'.lenLe
  by_cases hn : n = n'
  · subst hn
    have hn' : ((n : Int) != (n : Int)) = false := by simp
    go_enter Tryz.func28, Tryz.ntmps28
    go_wp2
    go_loopw [5] (fun i wr => ∃ k : Nat, k ≤ n ∧ i = .int .i64 k ∧ l.take k = l'.take k ∧ Below w.heap.size w wr) (fun i _ => n - (intOf i).toNat)
    case atStart => exact ⟨0, Nat.zero_le _, rfl, rfl, Below.refl _ _⟩
    case round =>
      obtain ⟨k, hk, rfl, ht0, hb⟩ := hrel
      have ht := Lib.hid ht0
      clear ht0
      have hbs := hb.size
      by_cases hlt : k < n
      · obtain ⟨b, o, A0, n0, c0, s0, rfl, _, _, hl0, h0, d0⟩ := IntL_at (h.below hb hh) hlt
        obtain ⟨b', o', A0', n0', c0', s0', rfl, _, _, hl0', h0', d0'⟩ := IntL_at (h'.below hb hh') hlt
        have hl := Lib.hid hl0
        have hl' := Lib.hid hl0'
        clear hl0 hl0'
        have hst := Lib.hid (fun (he : l[k]'(by omega) = l'[k]'(by omega)) => take_eq_snoc ht.out (by omega) (by omega) he)
        have hne := Lib.hid (fun (he : ¬ l[k]'(by omega) = l'[k]'(by omega)) => ne_of_at (by omega) (by omega) he)
        by_cases he0 : s0 = s0'
        · have hd := eqB_true he0
          have hs := Lib.hid (hst.out (by rw [hl.out, hl'.out, he0]))
          clear he0
          go_wp2_with fail
          go_region_held3 (fun w' => w'.cell? ⟨b, o + k, none⟩ = some (.slice A0 n0 c0) ∧ w'.cell? ⟨b', o' + k, none⟩ = some (.slice A0' n0' c0')) (first | exact ⟨d0, d0'⟩ | exact ⟨below_cell hb2 d0, below_cell hb2 d0'⟩)
            (first | (go_at_call 35; refine (lawsEqIntS _ lo hi lo' hi' n0 n0' c0 c0' A0 A0' s0 s0' h0.drew h0'.drew (by first | omega | (simp; omega)) (by first | omega | (simp; omega))).mono ?_; rintro e w2 ⟨rfl, hb2⟩))
          have hb3 := below_then hb.drew hb2
          go_wp2_with fail
          go_roundw
          case rel => exact ⟨k + 1, by omega, by go_num, hs.out, hb3⟩
          case measure => simp [intOf]; omega
        · have hd := eqB_false he0
          have hs := Lib.hid (eqB_false (hne.out (by rw [hl.out, hl'.out]; exact he0)))
          clear he0
          go_wp2_with fail
          go_region_held3 (fun w' => w'.cell? ⟨b, o + k, none⟩ = some (.slice A0 n0 c0) ∧ w'.cell? ⟨b', o' + k, none⟩ = some (.slice A0' n0' c0')) (first | exact ⟨d0, d0'⟩ | exact ⟨below_cell hb2 d0, below_cell hb2 d0'⟩)
            (first | (go_at_call 35; refine (lawsEqIntS _ lo hi lo' hi' n0 n0' c0 c0' A0 A0' s0 s0' h0.drew h0'.drew (by first | omega | (simp; omega)) (by first | omega | (simp; omega))).mono ?_; rintro e w2 ⟨rfl, hb2⟩))
          have hb3 := below_then hb.drew hb2
          go_wp2_with fail
          go_ret
          exact RetB.mk hs.out.symm hb3
      · go_wp2_with fail
        go_ret
        exact RetB.mk (eqB_true (eq_of_takes ht.out (by omega) (by omega))).symm hb
  · have hn' : ((n : Int) != (n' : Int)) = true := by simp; omega
    have hd := Lib.hid (eqB_false (x := l) (y := l') (by rintro rfl; omega))
    go_enter Tryz.func28, Tryz.ntmps28
    go_wp2
    go_ret
    exact RetB.mk hd.out.symm (Below.refl _ _)
end Go.Proofs.YtmnkgcjbckamnaaGreat
