/- SameImage. Printed by samegen.py. Walks. -/
import Derived.Test.YtikffchdembbjaaSameCode
set_option linter.unusedVariables false
set_option linter.unusedSimpArgs false
set_option maxRecDepth 100000
namespace Go.Proofs.Ytikffchdembbjaa
open Go.RowKit

set_option maxHeartbeats 1000000 in
theorem implSameImage (w : World) (lo hi lo' hi' : Nat) (A0 : Option Addr) (n0 c0 : Nat) (s0 : List Code) (A0' : Option Addr) (n0' c0' : Nat) (s0' : List Code) (h0 : Sl CodeR w lo hi A0 n0 c0 s0) (h0' : Sl CodeR w lo' hi' A0' n0' c0' s0') (hh : hi ≤ w.heap.size) (hh' : hi' ≤ w.heap.size) :
    Calls Try.prog 41 #[.agg #[.slice A0 n0 c0], .agg #[.slice A0' n0' c0']] w (RetB (eqB s0 s0') w) := by
  go_enter Try.func41, Try.ntmps41
  go_wp2_with fail
  all_goals try (go_ret; exact RetB.mk (by simp_all [eqB]) (by (repeat (first | with_reducible exact Below.refl _ _ | with_reducible assumption | with_reducible refine below_alloc ?_ _ | ((with_reducible refine Below.setCell ?_ ?_ _); rotate_left; (· first | exact Nat.le_refl _ | (simp; done) | (simp; omega))) | with_reducible refine below_drewN ?_ _ | with_reducible refine Below.drew ?_ | with_reducible refine below_then ?_ (by with_reducible assumption)))))
  refine (equalFuncCode _ lo hi lo' hi' n0 n0' c0 c0' A0 A0' s0 s0' (h0.below (B := w.heap.size) (by (repeat (first | with_reducible exact Below.refl _ _ | with_reducible assumption | with_reducible refine below_alloc ?_ _ | ((with_reducible refine Below.setCell ?_ ?_ _); rotate_left; (· first | exact Nat.le_refl _ | (simp; done) | (simp; omega))) | with_reducible refine below_drewN ?_ _ | with_reducible refine Below.drew ?_ | with_reducible refine below_then ?_ (by with_reducible assumption)))) hh) (h0'.below (B := w.heap.size) (by (repeat (first | with_reducible exact Below.refl _ _ | with_reducible assumption | with_reducible refine below_alloc ?_ _ | ((with_reducible refine Below.setCell ?_ ?_ _); rotate_left; (· first | exact Nat.le_refl _ | (simp; done) | (simp; omega))) | with_reducible refine below_drewN ?_ _ | with_reducible refine Below.drew ?_ | with_reducible refine below_then ?_ (by with_reducible assumption)))) hh') (by first | omega | (simp; omega)) (by first | omega | (simp; omega))).mono ?_
  rintro e w0 ⟨rfl, b0⟩
  obtain ⟨hc0, hf0⟩ := bcell b0
  have hz0 := b0.size
  try simp at hz0
  have hv0 : w.heap.size < w0.heap.size := by omega
  have hx0 : w.heap.size + 1 < w0.heap.size := by omega
  go_wp2_with fail
  all_goals (go_ret; exact RetB.mk (by simp_all [eqB]) (by (repeat (first | with_reducible exact Below.refl _ _ | with_reducible assumption | with_reducible refine below_alloc ?_ _ | ((with_reducible refine Below.setCell ?_ ?_ _); rotate_left; (· first | exact Nat.le_refl _ | (simp; done) | (simp; omega))) | with_reducible refine below_drewN ?_ _ | with_reducible refine Below.drew ?_ | with_reducible refine below_then ?_ (by with_reducible assumption)))))
set_option maxHeartbeats 1000000 in
theorem specSameImage (w : World) (lo hi lo' hi' : Nat) (A : Option Addr) (n c : Nat) (l : List Code) (A' : Option Addr) (n' c' : Nat) (l' : List Code) (h : Sl CodeR w lo hi A n c l) (h' : Sl CodeR w lo' hi' A' n' c' l') (hh : hi ≤ w.heap.size) (hh' : hi' ≤ w.heap.size) :
    Calls Try.prog 39 #[.agg #[.slice A n c], .agg #[.slice A' n' c']] w (RetB (eqB l l') w) := by
  have e1 := h.lenEq
  have e2 := h'.lenEq
  have b1 := h.lenLe
  have b2 := h'.lenLe
  by_cases hn : n = n'
  · subst hn
    have hn' : ((n : Int) != (n : Int)) = false := by simp
    go_enter Try.func39, Try.ntmps39
    go_wp2_with fail
    go_loopw [16] (fun i wr => ∃ k : Nat, k ≤ n ∧ i = .int .i64 k ∧ l.take k = l'.take k ∧ wr.cell? ⟨w.heap.size, 0, none⟩ = some (.slice A n c) ∧ wr.cell? ⟨w.heap.size + 1, 0, none⟩ = some (.slice A' n c') ∧ Below w.heap.size w wr) (fun i _ => n - (intOf i).toNat)
    case atStart => exact ⟨0, Nat.zero_le _, rfl, rfl, by simp [go_sem], by simp [go_sem], by (repeat (first | with_reducible exact Below.refl _ _ | with_reducible assumption | with_reducible refine below_alloc ?_ _ | ((with_reducible refine Below.setCell ?_ ?_ _); rotate_left; (· first | exact Nat.le_refl _ | (simp; done) | (simp; omega))) | with_reducible refine below_drewN ?_ _ | with_reducible refine Below.drew ?_ | with_reducible refine below_then ?_ (by with_reducible assumption)))⟩
    case round =>
      obtain ⟨k, hk, rfl, ht0, ka, kb, hb⟩ := hrel
      have ht := Lib.hid ht0
      clear ht0
      have hbs := hb.size
      by_cases hlt : k < n
      · obtain ⟨b, o, x0, x1, A2, n2, c2, s2, A3, n3, c3, s3, A4, n4, c4, s4, hA, q1, q2, hl0, i0, i1, h2, h3, h4, d0, d1, d2, d3, d4⟩ := Code_at (h.below hb hh) hlt
        obtain ⟨b', o', x0', x1', A2', n2', c2', s2', A3', n3', c3', s3', A4', n4', c4', s4', hA', q3, q4, hl0', i0', i1', h2', h3', h4', d0', d1', d2', d3', d4'⟩ := Code_at (h'.below hb hh') hlt
        subst hA hA'
        have hl := Lib.hid hl0
        have hl' := Lib.hid hl0'
        clear hl0 hl0'
        have hst := Lib.hid (fun (he : l[k]'(by omega) = l'[k]'(by omega)) => take_eq_snoc ht.out (by omega) (by omega) he)
        have hne := Lib.hid (fun (he : ¬ l[k]'(by omega) = l'[k]'(by omega)) => ne_of_at (by omega) (by omega) he)
        by_cases he0 : (x0, x1, s2, s3, s4) = (x0', x1', s2', s3', s4')
        · have hd := eqB_true he0
          have hs := Lib.hid (hst.out (by rw [hl.out, hl'.out, he0]))
          clear he0
          go_wp2_with fail
          go_region_held3 (fun w' => w'.cell? ⟨w.heap.size, 0, none⟩ = some (.slice (some ⟨b, o, none⟩) n c) ∧ w'.cell? ⟨w.heap.size + 1, 0, none⟩ = some (.slice (some ⟨b', o', none⟩) n c') ∧ w'.cell? ⟨b, o + k * 5, none⟩ = some (.int .i64 x0) ∧ w'.cell? ⟨b, o + k * 5 + 1, none⟩ = some (.int .i64 x1) ∧ w'.cell? ⟨b, o + k * 5 + 2, none⟩ = some (.slice A2 n2 c2) ∧ w'.cell? ⟨b, o + k * 5 + 3, none⟩ = some (.slice A3 n3 c3) ∧ w'.cell? ⟨b, o + k * 5 + 4, none⟩ = some (.slice A4 n4 c4) ∧ w'.cell? ⟨b', o' + k * 5, none⟩ = some (.int .i64 x0') ∧ w'.cell? ⟨b', o' + k * 5 + 1, none⟩ = some (.int .i64 x1') ∧ w'.cell? ⟨b', o' + k * 5 + 2, none⟩ = some (.slice A2' n2' c2') ∧ w'.cell? ⟨b', o' + k * 5 + 3, none⟩ = some (.slice A3' n3' c3') ∧ w'.cell? ⟨b', o' + k * 5 + 4, none⟩ = some (.slice A4' n4' c4')) (first | exact ⟨ka, kb, d0, d1, d2, d3, d4, d0', d1', d2', d3', d4'⟩ | exact ⟨below_cell hb2 ka, below_cell hb2 kb, below_cell hb2 d0, below_cell hb2 d1, below_cell hb2 d2, below_cell hb2 d3, below_cell hb2 d4, below_cell hb2 d0', below_cell hb2 d1', below_cell hb2 d2', below_cell hb2 d3', below_cell hb2 d4'⟩)
            (first | (go_at_call 74; refine (specL12SameCode _ lo hi lo' hi' x0 x1 A2 n2 c2 s2 A3 n3 c3 s3 A4 n4 c4 s4 x0' x1' A2' n2' c2' s2' A3' n3' c3' s3' A4' n4' c4' s4' h2.drew h3.drew h4.drew h2'.drew h3'.drew h4'.drew (by first | omega | (simp; omega)) (by first | omega | (simp; omega))).mono ?_; rintro e w2 ⟨rfl, hb2⟩))
          have hb3 := below_then hb.drew hb2
          have ka := below_cell (w := wr.drew) hb2 ka
          have kb := below_cell (w := wr.drew) hb2 kb
          go_wp2_with fail
          go_roundw
          case rel => exact ⟨k + 1, by omega, by go_num, hs.out, ka, kb, hb3⟩
          case measure => simp [intOf]; omega
        · have hd := eqB_false he0
          have hs := Lib.hid (eqB_false (hne.out (by rw [hl.out, hl'.out]; exact he0)))
          clear he0
          go_wp2_with fail
          go_region_held3 (fun w' => w'.cell? ⟨w.heap.size, 0, none⟩ = some (.slice (some ⟨b, o, none⟩) n c) ∧ w'.cell? ⟨w.heap.size + 1, 0, none⟩ = some (.slice (some ⟨b', o', none⟩) n c') ∧ w'.cell? ⟨b, o + k * 5, none⟩ = some (.int .i64 x0) ∧ w'.cell? ⟨b, o + k * 5 + 1, none⟩ = some (.int .i64 x1) ∧ w'.cell? ⟨b, o + k * 5 + 2, none⟩ = some (.slice A2 n2 c2) ∧ w'.cell? ⟨b, o + k * 5 + 3, none⟩ = some (.slice A3 n3 c3) ∧ w'.cell? ⟨b, o + k * 5 + 4, none⟩ = some (.slice A4 n4 c4) ∧ w'.cell? ⟨b', o' + k * 5, none⟩ = some (.int .i64 x0') ∧ w'.cell? ⟨b', o' + k * 5 + 1, none⟩ = some (.int .i64 x1') ∧ w'.cell? ⟨b', o' + k * 5 + 2, none⟩ = some (.slice A2' n2' c2') ∧ w'.cell? ⟨b', o' + k * 5 + 3, none⟩ = some (.slice A3' n3' c3') ∧ w'.cell? ⟨b', o' + k * 5 + 4, none⟩ = some (.slice A4' n4' c4')) (first | exact ⟨ka, kb, d0, d1, d2, d3, d4, d0', d1', d2', d3', d4'⟩ | exact ⟨below_cell hb2 ka, below_cell hb2 kb, below_cell hb2 d0, below_cell hb2 d1, below_cell hb2 d2, below_cell hb2 d3, below_cell hb2 d4, below_cell hb2 d0', below_cell hb2 d1', below_cell hb2 d2', below_cell hb2 d3', below_cell hb2 d4'⟩)
            (first | (go_at_call 74; refine (specL12SameCode _ lo hi lo' hi' x0 x1 A2 n2 c2 s2 A3 n3 c3 s3 A4 n4 c4 s4 x0' x1' A2' n2' c2' s2' A3' n3' c3' s3' A4' n4' c4' s4' h2.drew h3.drew h4.drew h2'.drew h3'.drew h4'.drew (by first | omega | (simp; omega)) (by first | omega | (simp; omega))).mono ?_; rintro e w2 ⟨rfl, hb2⟩))
          have hb3 := below_then hb.drew hb2
          have ka := below_cell (w := wr.drew) hb2 ka
          have kb := below_cell (w := wr.drew) hb2 kb
          go_wp2_with fail
          go_ret
          exact RetB.mk hs.out.symm hb3
      · go_wp2_with fail
        go_ret
        exact RetB.mk (eqB_true (eq_of_takes ht.out (by omega) (by omega))).symm hb
  · have hn' : ((n : Int) != (n' : Int)) = true := by simp; omega
    have hd := Lib.hid (eqB_false (x := l) (y := l') (by rintro rfl; omega))
    go_enter Try.func39, Try.ntmps39
    go_wp2_with fail
    go_ret
    exact RetB.mk hd.out.symm (by (repeat (first | with_reducible exact Below.refl _ _ | with_reducible assumption | with_reducible refine below_alloc ?_ _ | ((with_reducible refine Below.setCell ?_ ?_ _); rotate_left; (· first | exact Nat.le_refl _ | (simp; done) | (simp; omega))) | with_reducible refine below_drewN ?_ _ | with_reducible refine Below.drew ?_ | with_reducible refine below_then ?_ (by with_reducible assumption))))

theorem implSameImageC (w : World) (A : Option Addr) (n c : Nat) (l : List Code) (A' : Option Addr) (n' c' : Nat) (l' : List Code) (h : Sl CodeR w 0 w.heap.size A n c l) (_ : mszLCode l ≤ 1048576) (h' : Sl CodeR w 0 w.heap.size A' n' c' l') (_ : mszLCode l' ≤ 1048576) :
    Calls Try.prog 41 #[.agg #[.slice A n c], .agg #[.slice A' n' c']] w (RetV (.bool (eqB l l')) w) := implSameImage w 0 _ 0 _ A n c l A' n' c' l' h h' (Nat.le_refl _) (Nat.le_refl _)

theorem specSameImageC (w : World) (A : Option Addr) (n c : Nat) (l : List Code) (A' : Option Addr) (n' c' : Nat) (l' : List Code) (h : Sl CodeR w 0 w.heap.size A n c l) (_ : mszLCode l ≤ 1048576) (h' : Sl CodeR w 0 w.heap.size A' n' c' l') (_ : mszLCode l' ≤ 1048576) :
    Calls Try.prog 39 #[.agg #[.slice A n c], .agg #[.slice A' n' c']] w (RetV (.bool (eqB l l')) w) := specSameImage w 0 _ 0 _ A n c l A' n' c' l' h h' (Nat.le_refl _) (Nat.le_refl _)
end Go.Proofs.Ytikffchdembbjaa
