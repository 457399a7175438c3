/- SameCode. Printed by samegen.py. Walks. -/
import Derived.Test.YtikffchdembbjaaTyImage
import Derived.Test.YtikffchdembbjaaSameInts
import Derived.Test.YtikffchdembbjaaSameIns
import Derived.Test.YtikffchdembbjaaSameRow
import Derived.Deep.QuietTactic
import Derived.BigQuiet
import Derived.Deep.RegionHeld3
set_option linter.unusedVariables false
set_option linter.unusedSimpArgs false
set_option maxRecDepth 100000
namespace Go.Proofs.Ytikffchdembbjaa
open Go.RowKit

set_option maxHeartbeats 1000000 in
theorem implSameCode (w : World) (lo hi lo' hi' : Nat) (x0 : Int) (x1 : Int) (A2 : Option Addr) (n2 c2 : Nat) (s2 : List Int) (A3 : Option Addr) (n3 c3 : Nat) (s3 : List Ins) (A4 : Option Addr) (n4 c4 : Nat) (s4 : List Row) (x0' : Int) (x1' : Int) (A2' : Option Addr) (n2' c2' : Nat) (s2' : List Int) (A3' : Option Addr) (n3' c3' : Nat) (s3' : List Ins) (A4' : Option Addr) (n4' c4' : Nat) (s4' : List Row) (h2 : Sl intR w lo hi A2 n2 c2 s2) (h3 : Sl InsR w lo hi A3 n3 c3 s3) (h4 : Sl RowR w lo hi A4 n4 c4 s4) (h2' : Sl intR w lo' hi' A2' n2' c2' s2') (h3' : Sl InsR w lo' hi' A3' n3' c3' s3') (h4' : Sl RowR w lo' hi' A4' n4' c4' s4') (hh : hi ≤ w.heap.size) (hh' : hi' ≤ w.heap.size) :
    Calls Try.prog 77 #[.agg #[.int .i64 x0, .int .i64 x1, .slice A2 n2 c2, .slice A3 n3 c3, .slice A4 n4 c4], .agg #[.int .i64 x0', .int .i64 x1', .slice A2' n2' c2', .slice A3' n3' c3', .slice A4' n4' c4']] w (RetB (eqB (x0, x1, s2, s3, s4) (x0', x1', s2', s3', s4')) w) := by
  go_enter Try.func77, Try.ntmps77
  go_wp2_with fail
  all_goals try (go_ret; exact RetB.mk (by simp_all [eqB]) (by (repeat (first | with_reducible exact Below.refl _ _ | with_reducible assumption | with_reducible refine below_alloc ?_ _ | ((with_reducible refine Below.setCell ?_ ?_ _); rotate_left; (· first | exact Nat.le_refl _ | (simp; done) | (simp; omega))) | with_reducible refine below_drewN ?_ _ | with_reducible refine Below.drew ?_ | with_reducible refine below_then ?_ (by with_reducible assumption)))))
  refine (slicesEqualInts _ lo hi lo' hi' n2 n2' c2 c2' A2 A2' s2 s2' (h2.below (B := w.heap.size) (by (repeat (first | with_reducible exact Below.refl _ _ | with_reducible assumption | with_reducible refine below_alloc ?_ _ | ((with_reducible refine Below.setCell ?_ ?_ _); rotate_left; (· first | exact Nat.le_refl _ | (simp; done) | (simp; omega))) | with_reducible refine below_drewN ?_ _ | with_reducible refine Below.drew ?_ | with_reducible refine below_then ?_ (by with_reducible assumption)))) hh) (h2'.below (B := w.heap.size) (by (repeat (first | with_reducible exact Below.refl _ _ | with_reducible assumption | with_reducible refine below_alloc ?_ _ | ((with_reducible refine Below.setCell ?_ ?_ _); rotate_left; (· first | exact Nat.le_refl _ | (simp; done) | (simp; omega))) | with_reducible refine below_drewN ?_ _ | with_reducible refine Below.drew ?_ | with_reducible refine below_then ?_ (by with_reducible assumption)))) hh') (by first | omega | (simp; omega)) (by first | omega | (simp; omega))).mono ?_
  rintro e w2 ⟨rfl, b2⟩
  obtain ⟨hc2, hf2⟩ := bcell b2
  have hz2 := b2.size
  try simp at hz2
  have hv2 : w.heap.size < w2.heap.size := by omega
  have hx2 : w.heap.size + 1 < w2.heap.size := by omega
  go_wp2_with fail
  all_goals try (go_ret; exact RetB.mk (by simp_all [eqB]) (by (repeat (first | with_reducible exact Below.refl _ _ | with_reducible assumption | with_reducible refine below_alloc ?_ _ | ((with_reducible refine Below.setCell ?_ ?_ _); rotate_left; (· first | exact Nat.le_refl _ | (simp; done) | (simp; omega))) | with_reducible refine below_drewN ?_ _ | with_reducible refine Below.drew ?_ | with_reducible refine below_then ?_ (by with_reducible assumption)))))
  refine (slicesEqualIns _ lo hi lo' hi' n3 n3' c3 c3' A3 A3' s3 s3' (h3.below (B := w.heap.size) (by (repeat (first | with_reducible exact Below.refl _ _ | with_reducible assumption | with_reducible refine below_alloc ?_ _ | ((with_reducible refine Below.setCell ?_ ?_ _); rotate_left; (· first | exact Nat.le_refl _ | (simp; done) | (simp; omega))) | with_reducible refine below_drewN ?_ _ | with_reducible refine Below.drew ?_ | with_reducible refine below_then ?_ (by with_reducible assumption)))) hh) (h3'.below (B := w.heap.size) (by (repeat (first | with_reducible exact Below.refl _ _ | with_reducible assumption | with_reducible refine below_alloc ?_ _ | ((with_reducible refine Below.setCell ?_ ?_ _); rotate_left; (· first | exact Nat.le_refl _ | (simp; done) | (simp; omega))) | with_reducible refine below_drewN ?_ _ | with_reducible refine Below.drew ?_ | with_reducible refine below_then ?_ (by with_reducible assumption)))) hh') (by first | omega | (simp; omega)) (by first | omega | (simp; omega))).mono ?_
  rintro e w3 ⟨rfl, b3⟩
  obtain ⟨hc3, hf3⟩ := bcell b3
  have hz3 := b3.size
  try simp at hz3
  have hv3 : w.heap.size < w3.heap.size := by omega
  have hx3 : w.heap.size + 1 < w3.heap.size := by omega
  go_wp2_with fail
  all_goals try (go_ret; exact RetB.mk (by simp_all [eqB]) (by (repeat (first | with_reducible exact Below.refl _ _ | with_reducible assumption | with_reducible refine below_alloc ?_ _ | ((with_reducible refine Below.setCell ?_ ?_ _); rotate_left; (· first | exact Nat.le_refl _ | (simp; done) | (simp; omega))) | with_reducible refine below_drewN ?_ _ | with_reducible refine Below.drew ?_ | with_reducible refine below_then ?_ (by with_reducible assumption)))))
  refine (slicesEqualRow _ lo hi lo' hi' n4 n4' c4 c4' A4 A4' s4 s4' (h4.below (B := w.heap.size) (by (repeat (first | with_reducible exact Below.refl _ _ | with_reducible assumption | with_reducible refine below_alloc ?_ _ | ((with_reducible refine Below.setCell ?_ ?_ _); rotate_left; (· first | exact Nat.le_refl _ | (simp; done) | (simp; omega))) | with_reducible refine below_drewN ?_ _ | with_reducible refine Below.drew ?_ | with_reducible refine below_then ?_ (by with_reducible assumption)))) hh) (h4'.below (B := w.heap.size) (by (repeat (first | with_reducible exact Below.refl _ _ | with_reducible assumption | with_reducible refine below_alloc ?_ _ | ((with_reducible refine Below.setCell ?_ ?_ _); rotate_left; (· first | exact Nat.le_refl _ | (simp; done) | (simp; omega))) | with_reducible refine below_drewN ?_ _ | with_reducible refine Below.drew ?_ | with_reducible refine below_then ?_ (by with_reducible assumption)))) hh') (by first | omega | (simp; omega)) (by first | omega | (simp; omega))).mono ?_
  rintro e w4 ⟨rfl, b4⟩
  obtain ⟨hc4, hf4⟩ := bcell b4
  have hz4 := b4.size
  try simp at hz4
  have hv4 : w.heap.size < w4.heap.size := by omega
  have hx4 : w.heap.size + 1 < w4.heap.size := by omega
  go_wp2_with fail
  all_goals (go_ret; exact RetB.mk (by simp_all [eqB]) (by (repeat (first | with_reducible exact Below.refl _ _ | with_reducible assumption | with_reducible refine below_alloc ?_ _ | ((with_reducible refine Below.setCell ?_ ?_ _); rotate_left; (· first | exact Nat.le_refl _ | (simp; done) | (simp; omega))) | with_reducible refine below_drewN ?_ _ | with_reducible refine Below.drew ?_ | with_reducible refine below_then ?_ (by with_reducible assumption)))))
set_option maxHeartbeats 1000000 in
theorem equalFuncCode (w : World) (lo hi lo' hi' n n' c c' : Nat) (A A' : Option Addr) (l l' : List Code) (h : Sl CodeR w lo hi A n c l) (h' : Sl CodeR w lo' hi' A' n' c' l') (hh : hi ≤ w.heap.size) (hh' : hi' ≤ w.heap.size) :
    Calls Try.prog 76 #[.slice A n c, .slice A' n' c', .func (.func 77) #[] #[]] w (RetB (eqB l l') w) := by
  have e1 := h.lenEq
  have e2 := h'.lenEq
  have b1 := h.lenLe
  have b2 := h'.lenLe
  by_cases hn : n = n'
  · subst hn
    have hn' : ((n : Int) != (n : Int)) = false := by simp
    go_enter Try.func76, Try.ntmps76
    go_wp2
    go_loopw [17] (fun i wr => ∃ k : Nat, k ≤ n ∧ i = .int .i64 k ∧ l.take k = l'.take k ∧ Below w.heap.size w wr) (fun i _ => n - (intOf i).toNat)
    case atStart => exact ⟨0, Nat.zero_le _, rfl, rfl, Below.refl _ _⟩
    case round =>
      obtain ⟨k, hk, rfl, ht0, hb⟩ := hrel
      have ht := Lib.hid ht0
      clear ht0
      have hbs := hb.size
      by_cases hlt : k < n
      · obtain ⟨b, o, x0, x1, A2, n2, c2, s2, A3, n3, c3, s3, A4, n4, c4, s4, rfl, q1, q2, hl0, i0, i1, h2, h3, h4, d0, d1, d2, d3, d4⟩ := Code_at (h.below hb hh) hlt
        obtain ⟨b', o', x0', x1', A2', n2', c2', s2', A3', n3', c3', s3', A4', n4', c4', s4', rfl, q3, q4, hl0', i0', i1', h2', h3', h4', d0', d1', d2', d3', d4'⟩ := Code_at (h'.below hb hh') hlt
        have hl := Lib.hid hl0
        have hl' := Lib.hid hl0'
        clear hl0 hl0'
        have hst := Lib.hid (fun (he : l[k]'(by omega) = l'[k]'(by omega)) => take_eq_snoc ht.out (by omega) (by omega) he)
        have hne := Lib.hid (fun (he : ¬ l[k]'(by omega) = l'[k]'(by omega)) => ne_of_at (by omega) (by omega) he)
        have z1 : b < wr.heap.size := by omega
        have z2 : b' < wr.heap.size := by omega
        go_wp2_with fail
        refine (implSameCode _ lo hi lo' hi' x0 x1 A2 n2 c2 s2 A3 n3 c3 s3 A4 n4 c4 s4 x0' x1' A2' n2' c2' s2' A3' n3' c3' s3' A4' n4' c4' s4' (h2.below (B := wr.heap.size) (by (repeat (first | with_reducible exact Below.refl _ _ | with_reducible assumption | with_reducible refine below_alloc ?_ _ | ((with_reducible refine Below.setCell ?_ ?_ _); rotate_left; (· first | exact Nat.le_refl _ | (simp; done) | (simp; omega))) | with_reducible refine below_drewN ?_ _ | with_reducible refine Below.drew ?_ | with_reducible refine below_then ?_ (by with_reducible assumption)))) (by omega)) (h3.below (B := wr.heap.size) (by (repeat (first | with_reducible exact Below.refl _ _ | with_reducible assumption | with_reducible refine below_alloc ?_ _ | ((with_reducible refine Below.setCell ?_ ?_ _); rotate_left; (· first | exact Nat.le_refl _ | (simp; done) | (simp; omega))) | with_reducible refine below_drewN ?_ _ | with_reducible refine Below.drew ?_ | with_reducible refine below_then ?_ (by with_reducible assumption)))) (by omega)) (h4.below (B := wr.heap.size) (by (repeat (first | with_reducible exact Below.refl _ _ | with_reducible assumption | with_reducible refine below_alloc ?_ _ | ((with_reducible refine Below.setCell ?_ ?_ _); rotate_left; (· first | exact Nat.le_refl _ | (simp; done) | (simp; omega))) | with_reducible refine below_drewN ?_ _ | with_reducible refine Below.drew ?_ | with_reducible refine below_then ?_ (by with_reducible assumption)))) (by omega)) (h2'.below (B := wr.heap.size) (by (repeat (first | with_reducible exact Below.refl _ _ | with_reducible assumption | with_reducible refine below_alloc ?_ _ | ((with_reducible refine Below.setCell ?_ ?_ _); rotate_left; (· first | exact Nat.le_refl _ | (simp; done) | (simp; omega))) | with_reducible refine below_drewN ?_ _ | with_reducible refine Below.drew ?_ | with_reducible refine below_then ?_ (by with_reducible assumption)))) (by omega)) (h3'.below (B := wr.heap.size) (by (repeat (first | with_reducible exact Below.refl _ _ | with_reducible assumption | with_reducible refine below_alloc ?_ _ | ((with_reducible refine Below.setCell ?_ ?_ _); rotate_left; (· first | exact Nat.le_refl _ | (simp; done) | (simp; omega))) | with_reducible refine below_drewN ?_ _ | with_reducible refine Below.drew ?_ | with_reducible refine below_then ?_ (by with_reducible assumption)))) (by omega)) (h4'.below (B := wr.heap.size) (by (repeat (first | with_reducible exact Below.refl _ _ | with_reducible assumption | with_reducible refine below_alloc ?_ _ | ((with_reducible refine Below.setCell ?_ ?_ _); rotate_left; (· first | exact Nat.le_refl _ | (simp; done) | (simp; omega))) | with_reducible refine below_drewN ?_ _ | with_reducible refine Below.drew ?_ | with_reducible refine below_then ?_ (by with_reducible assumption)))) (by omega)) (by first | omega | (simp; omega)) (by first | omega | (simp; omega))).mono ?_
        rintro e w2 ⟨rfl, hb2⟩
        have hb3 : Below w.heap.size w w2 := by (repeat (first | with_reducible exact Below.refl _ _ | with_reducible assumption | with_reducible refine below_alloc ?_ _ | ((with_reducible refine Below.setCell ?_ ?_ _); rotate_left; (· first | exact Nat.le_refl _ | (simp; done) | (simp; omega))) | with_reducible refine below_drewN ?_ _ | with_reducible refine Below.drew ?_ | with_reducible refine below_then ?_ (by with_reducible assumption)))
        by_cases he0 : (x0, x1, s2, s3, s4) = (x0', x1', s2', s3', s4')
        · have hd := eqB_true he0
          have hs := Lib.hid (hst.out (by rw [hl.out, hl'.out, he0]))
          clear he0
          go_wp2_with fail
          go_roundw
          case rel => exact ⟨k + 1, by omega, by go_num, hs.out, hb3⟩
          case measure => simp [intOf]; omega
        · have hd := eqB_false he0
          have hs := Lib.hid (eqB_false (hne.out (by rw [hl.out, hl'.out]; exact he0)))
          clear he0
          go_wp2_with fail
          go_ret
          exact RetB.mk hs.out.symm hb3
      · go_wp2_with fail
        go_ret
        exact RetB.mk (eqB_true (eq_of_takes ht.out (by omega) (by omega))).symm hb
  · have hn' : ((n : Int) != (n' : Int)) = true := by simp; omega
    have hd := Lib.hid (eqB_false (x := l) (y := l') (by rintro rfl; omega))
    go_enter Try.func76, Try.ntmps76
    go_wp2
    go_ret
    exact RetB.mk hd.out.symm (Below.refl _ _)
set_option maxHeartbeats 2000000 in
theorem specL12SameCode (w : World) (lo hi lo' hi' : Nat) (x0 : Int) (x1 : Int) (A2 : Option Addr) (n2 c2 : Nat) (s2 : List Int) (A3 : Option Addr) (n3 c3 : Nat) (s3 : List Ins) (A4 : Option Addr) (n4 c4 : Nat) (s4 : List Row) (x0' : Int) (x1' : Int) (A2' : Option Addr) (n2' c2' : Nat) (s2' : List Int) (A3' : Option Addr) (n3' c3' : Nat) (s3' : List Ins) (A4' : Option Addr) (n4' c4' : Nat) (s4' : List Row) (h2 : Sl intR w lo hi A2 n2 c2 s2) (h3 : Sl InsR w lo hi A3 n3 c3 s3) (h4 : Sl RowR w lo hi A4 n4 c4 s4) (h2' : Sl intR w lo' hi' A2' n2' c2' s2') (h3' : Sl InsR w lo' hi' A3' n3' c3' s3') (h4' : Sl RowR w lo' hi' A4' n4' c4' s4') (hh : hi ≤ w.heap.size) (hh' : hi' ≤ w.heap.size) :
    Calls Try.prog 74 #[.agg #[.int .i64 x0, .int .i64 x1, .slice A2 n2 c2, .slice A3 n3 c3, .slice A4 n4 c4], .agg #[.int .i64 x0', .int .i64 x1', .slice A2' n2' c2', .slice A3' n3' c3', .slice A4' n4' c4']] w (RetB (eqB (x0, x1, s2, s3, s4) (x0', x1', s2', s3', s4')) w) := by
  have l3 := h3.lenEq
  have l3' := h3'.lenEq
  have v3 := h3.lenLe
  have v3' := h3'.lenLe
  have l4 := h4.lenEq
  have l4' := h4'.lenEq
  have v4 := h4.lenLe
  have v4' := h4'.lenLe
  by_cases E : x0 = x0' ∧ x1 = x1' ∧ s2 = s2' ∧ n3 = n3' ∧ n4 = n4'
  rotate_left
  · have E := Lib.hid E
    have H := Lib.hid (fun (e : (x0, x1, s2, s3, s4) = (x0', x1', s2', s3', s4')) => E.out (by simp only [Prod.mk.injEq] at e; obtain ⟨rfl, rfl, rfl, rfl, rfl⟩ := e; exact ⟨rfl, rfl, rfl, by omega, by omega⟩))
    clear l3 l3' l4 l4'
    go_enter Try.func74, Try.ntmps74
    go_wp2_with fail
    all_goals try (go_ret; exact RetB.mk (eqB_false H.out).symm (by (repeat (first | with_reducible exact Below.refl _ _ | with_reducible assumption | with_reducible refine below_alloc ?_ _ | ((with_reducible refine Below.setCell ?_ ?_ _); rotate_left; (· first | exact Nat.le_refl _ | (simp; done) | (simp; omega))) | with_reducible refine below_drewN ?_ _ | with_reducible refine Below.drew ?_ | with_reducible refine below_then ?_ (by with_reducible assumption)))))
    refine (specL1Same _ lo hi lo' hi' n2 n2' c2 c2' A2 A2' s2 s2' (h2.below (B := w.heap.size) (by (repeat (first | with_reducible exact Below.refl _ _ | with_reducible assumption | with_reducible refine below_alloc ?_ _ | ((with_reducible refine Below.setCell ?_ ?_ _); rotate_left; (· first | exact Nat.le_refl _ | (simp; done) | (simp; omega))) | with_reducible refine below_drewN ?_ _ | with_reducible refine Below.drew ?_ | with_reducible refine below_then ?_ (by with_reducible assumption)))) hh) (h2'.below (B := w.heap.size) (by (repeat (first | with_reducible exact Below.refl _ _ | with_reducible assumption | with_reducible refine below_alloc ?_ _ | ((with_reducible refine Below.setCell ?_ ?_ _); rotate_left; (· first | exact Nat.le_refl _ | (simp; done) | (simp; omega))) | with_reducible refine below_drewN ?_ _ | with_reducible refine Below.drew ?_ | with_reducible refine below_then ?_ (by with_reducible assumption)))) hh') (by first | omega | (simp; omega)) (by first | omega | (simp; omega))).mono ?_
    rintro e w2 ⟨rfl, b2⟩
    obtain ⟨hc2, hf2⟩ := bcell b2
    have hz2 := b2.size
    try simp at hz2
    have hv2 : w.heap.size < w2.heap.size := by omega
    have hx2 : w.heap.size + 1 < w2.heap.size := by omega
    go_wp2_with fail
    all_goals try (go_ret; exact RetB.mk (eqB_false H.out).symm (by (repeat (first | with_reducible exact Below.refl _ _ | with_reducible assumption | with_reducible refine below_alloc ?_ _ | ((with_reducible refine Below.setCell ?_ ?_ _); rotate_left; (· first | exact Nat.le_refl _ | (simp; done) | (simp; omega))) | with_reducible refine below_drewN ?_ _ | with_reducible refine Below.drew ?_ | with_reducible refine below_then ?_ (by with_reducible assumption)))))
    exfalso
    have g4 : (n4 : Int) = (n4' : Int) := by first | assumption | (have a : ((n4 : Int) != (n4' : Int)) = false := (by assumption); simpa using a)
    have g3 : (n3 : Int) = (n3' : Int) := by first | assumption | (have a : ((n3 : Int) != (n3' : Int)) = false := (by assumption); simpa using a)
    exact E.out ⟨by assumption, by assumption, eqB_iff.1 (by assumption), by omega, by omega⟩
  obtain ⟨rfl, rfl, rfl, rfl, rfl⟩ := E
  have hE2 := eqB_true (rfl : s2 = s2)
  have g3 : ((n3 : Int) != (n3 : Int)) = false := by simp
  have g4 : ((n4 : Int) != (n4 : Int)) = false := by simp
  go_enter Try.func74, Try.ntmps74
  go_wp2_with fail
  refine (specL1Same _ lo hi lo' hi' n2 n2' c2 c2' A2 A2' s2 s2 (h2.below (B := w.heap.size) (by (repeat (first | with_reducible exact Below.refl _ _ | with_reducible assumption | with_reducible refine below_alloc ?_ _ | ((with_reducible refine Below.setCell ?_ ?_ _); rotate_left; (· first | exact Nat.le_refl _ | (simp; done) | (simp; omega))) | with_reducible refine below_drewN ?_ _ | with_reducible refine Below.drew ?_ | with_reducible refine below_then ?_ (by with_reducible assumption)))) hh) (h2'.below (B := w.heap.size) (by (repeat (first | with_reducible exact Below.refl _ _ | with_reducible assumption | with_reducible refine below_alloc ?_ _ | ((with_reducible refine Below.setCell ?_ ?_ _); rotate_left; (· first | exact Nat.le_refl _ | (simp; done) | (simp; omega))) | with_reducible refine below_drewN ?_ _ | with_reducible refine Below.drew ?_ | with_reducible refine below_then ?_ (by with_reducible assumption)))) hh') (by first | omega | (simp; omega)) (by first | omega | (simp; omega))).mono ?_
  rintro e w2 ⟨rfl, b2⟩
  obtain ⟨hc2, hf2⟩ := bcell b2
  have hz2 := b2.size
  try simp at hz2
  have hv2 : w.heap.size < w2.heap.size := by omega
  have hx2 : w.heap.size + 1 < w2.heap.size := by omega
  have hb2 : Below w.heap.size w w2 := by (repeat (first | with_reducible exact Below.refl _ _ | with_reducible assumption | with_reducible refine below_alloc ?_ _ | ((with_reducible refine Below.setCell ?_ ?_ _); rotate_left; (· first | exact Nat.le_refl _ | (simp; done) | (simp; omega))) | with_reducible refine below_drewN ?_ _ | with_reducible refine Below.drew ?_ | with_reducible refine below_then ?_ (by with_reducible assumption)))
  go_wp2_with fail
  have ka3 : w2.cell? ⟨w.heap.size, 3, none⟩ = some (.slice A3 n3 c3) := by simp [hc2, go_sem]
  have kb3 : w2.cell? ⟨w.heap.size + 1, 3, none⟩ = some (.slice A3' n3 c3') := by simp [hc2, go_sem]
  have ka4 : w2.cell? ⟨w.heap.size, 4, none⟩ = some (.slice A4 n4 c4) := by simp [hc2, go_sem]
  have kb4 : w2.cell? ⟨w.heap.size + 1, 4, none⟩ = some (.slice A4' n4 c4') := by simp [hc2, go_sem]
  clear hc2 hf2 b2 hz2
  go_loopw [48] (fun i wr => ∃ k : Nat, k ≤ n3 ∧ i = .int .i64 k ∧ s3.take k = s3'.take k ∧ wr.cell? ⟨w.heap.size, 3, none⟩ = some (.slice A3 n3 c3) ∧ wr.cell? ⟨w.heap.size + 1, 3, none⟩ = some (.slice A3' n3 c3') ∧ wr.cell? ⟨w.heap.size, 4, none⟩ = some (.slice A4 n4 c4) ∧ wr.cell? ⟨w.heap.size + 1, 4, none⟩ = some (.slice A4' n4 c4') ∧ Below w.heap.size w wr) (fun i _ => n3 - (intOf i).toNat)
  case atStart => exact ⟨0, Nat.zero_le _, rfl, rfl, by first | assumption | simp [go_sem, *], by first | assumption | simp [go_sem, *], by first | assumption | simp [go_sem, *], by first | assumption | simp [go_sem, *], by (repeat (first | with_reducible exact Below.refl _ _ | with_reducible assumption | with_reducible refine below_alloc ?_ _ | ((with_reducible refine Below.setCell ?_ ?_ _); rotate_left; (· first | exact Nat.le_refl _ | (simp; done) | (simp; omega))) | with_reducible refine below_drewN ?_ _ | with_reducible refine Below.drew ?_ | with_reducible refine below_then ?_ (by with_reducible assumption)))⟩
  case round =>
    obtain ⟨k, hk, rfl, ht0, ka3, kb3, ka4, kb4, hb⟩ := hrel
    have ht := Lib.hid ht0
    clear ht0
    by_cases hlt : k < n3
    · obtain ⟨b, o, z0, z1, hA, _, _, hl0, _, _, e0, e1⟩ := Ins_at (h3.below hb hh) hlt
      obtain ⟨b', o', z0', z1', hA', _, _, hl0', _, _, e0', e1'⟩ := Ins_at (h3'.below hb hh') (k := k) (by omega)
      subst hA hA'
      have hl := Lib.hid hl0
      have hl' := Lib.hid hl0'
      clear hl0 hl0'
      have hst := Lib.hid (fun (he : s3[k]'(by omega) = s3'[k]'(by omega)) => take_eq_snoc ht.out (by omega) (by omega) he)
      have hne := Lib.hid (fun (he : ¬ s3[k]'(by omega) = s3'[k]'(by omega)) => ne_of_at (l := s3) (l' := s3') (by omega) (by omega) he)
      by_cases he0 : (z0, z1) = (z0', z1')
      · have hs := Lib.hid (hst.out (by rw [hl.out, hl'.out, he0]))
        clear hst hne hl hl'
        simp only [Prod.mk.injEq] at he0
        obtain ⟨rfl, rfl⟩ := he0
        go_wp2_with fail
        go_quiet (fail)
        go_wp2_with fail
        go_roundw
        case rel => first | exact ⟨k + 1, by omega, by go_num, hs.out, ka3, kb3, ka4, kb4, below_drewN hb _⟩ | ((repeat apply Exists.intro); exact ⟨⟨by omega, by go_num, hs.out, ka3, kb3, ka4, kb4, below_drewN hb _⟩, rfl⟩)
        case measure => simp [intOf]; omega
      · have hs := Lib.hid (hne.out (by rw [hl.out, hl'.out]; exact he0))
        clear hst hne hl hl'
        simp only [Prod.mk.injEq] at he0
        by_cases f0 : z0 = z0'
        rotate_left
        · have g : (z0 == z0') = false := by simpa using f0
          clear he0 f0
          go_wp2_with fail
          go_quiet (fail)
          go_wp2_with fail
          go_ret
          exact RetB.mk (eqB_false (fun e => (Hid.out hs) (by simp only [Prod.mk.injEq] at e; simp only [e]))).symm (below_drewN hb _)
        subst f0
        have g : (z1 == z1') = false := by simpa using he0
        clear he0
        go_wp2_with fail
        go_quiet (fail)
        go_wp2_with fail
        go_ret
        exact RetB.mk (eqB_false (fun e => (Hid.out hs) (by simp only [Prod.mk.injEq] at e; simp only [e]))).symm (below_drewN hb _)
    · have q3 := Lib.hid (eq_of_takes ht.out (show s3.length ≤ k by omega) (by omega))
      go_wp2_with fail
      go_loopw [66] (fun i wr => ∃ k : Nat, k ≤ n4 ∧ i = .int .i64 k ∧ s4.take k = s4'.take k ∧ wr.cell? ⟨w.heap.size, 4, none⟩ = some (.slice A4 n4 c4) ∧ wr.cell? ⟨w.heap.size + 1, 4, none⟩ = some (.slice A4' n4 c4') ∧ Below w.heap.size w wr) (fun i _ => n4 - (intOf i).toNat)
      case atStart => exact ⟨0, Nat.zero_le _, rfl, rfl, by first | assumption | simp [go_sem, *], by first | assumption | simp [go_sem, *], by (repeat (first | with_reducible exact Below.refl _ _ | with_reducible assumption | with_reducible refine below_alloc ?_ _ | ((with_reducible refine Below.setCell ?_ ?_ _); rotate_left; (· first | exact Nat.le_refl _ | (simp; done) | (simp; omega))) | with_reducible refine below_drewN ?_ _ | with_reducible refine Below.drew ?_ | with_reducible refine below_then ?_ (by with_reducible assumption)))⟩
      case round =>
        obtain ⟨k, hk, rfl, ht0, ka4, kb4, hb⟩ := hrel
        have ht := Lib.hid ht0
        clear ht0
        by_cases hlt : k < n4
        · obtain ⟨b, o, z0, z1, z2, hA, _, _, hl0, _, _, _, e0, e1, e2⟩ := Row_at (h4.below hb hh) hlt
          obtain ⟨b', o', z0', z1', z2', hA', _, _, hl0', _, _, _, e0', e1', e2'⟩ := Row_at (h4'.below hb hh') (k := k) (by omega)
          subst hA hA'
          have hl := Lib.hid hl0
          have hl' := Lib.hid hl0'
          clear hl0 hl0'
          have hst := Lib.hid (fun (he : s4[k]'(by omega) = s4'[k]'(by omega)) => take_eq_snoc ht.out (by omega) (by omega) he)
          have hne := Lib.hid (fun (he : ¬ s4[k]'(by omega) = s4'[k]'(by omega)) => ne_of_at (l := s4) (l' := s4') (by omega) (by omega) he)
          by_cases he0 : (z0, z1, z2) = (z0', z1', z2')
          · have hs := Lib.hid (hst.out (by rw [hl.out, hl'.out, he0]))
            clear hst hne hl hl'
            simp only [Prod.mk.injEq] at he0
            obtain ⟨rfl, rfl, rfl⟩ := he0
            go_wp2_with fail
            go_quiet (fail)
            go_wp2_with fail
            go_roundw
            case rel => first | exact ⟨k + 1, by omega, by go_num, hs.out, ka4, kb4, below_drewN hb _⟩ | ((repeat apply Exists.intro); exact ⟨⟨by omega, by go_num, hs.out, ka4, kb4, below_drewN hb _⟩, rfl⟩)
            case measure => simp [intOf]; omega
          · have hs := Lib.hid (hne.out (by rw [hl.out, hl'.out]; exact he0))
            clear hst hne hl hl'
            simp only [Prod.mk.injEq] at he0
            by_cases f0 : z0 = z0'
            rotate_left
            · have g : (z0 == z0') = false := by simpa using f0
              clear he0 f0
              go_wp2_with fail
              go_quiet (fail)
              go_wp2_with fail
              go_ret
              exact RetB.mk (eqB_false (fun e => (Hid.out hs) (by simp only [Prod.mk.injEq] at e; simp only [e]))).symm (below_drewN hb _)
            subst f0
            by_cases f1 : z1 = z1'
            rotate_left
            · have g : (z1 == z1') = false := by simpa using f1
              clear he0 f1
              go_wp2_with fail
              go_quiet (fail)
              go_wp2_with fail
              go_ret
              exact RetB.mk (eqB_false (fun e => (Hid.out hs) (by simp only [Prod.mk.injEq] at e; simp only [e]))).symm (below_drewN hb _)
            subst f1
            have g : (z2 == z2') = false := by simpa using he0
            clear he0
            go_wp2_with fail
            go_quiet (fail)
            go_wp2_with fail
            go_ret
            exact RetB.mk (eqB_false (fun e => (Hid.out hs) (by simp only [Prod.mk.injEq] at e; simp only [e]))).symm (below_drewN hb _)
        · have q4 := Lib.hid (eq_of_takes ht.out (show s4.length ≤ k by omega) (by omega))
          go_wp2_with fail
          go_ret
          exact RetB.mk (eqB_true (by rw [q3.out, q4.out])).symm hb
end Go.Proofs.Ytikffchdembbjaa
