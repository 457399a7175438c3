/- Outcome: how it lies in cells; the laws' own helpers over it. Printed by typegen.py. Walks. -/
import Derived.Test.YtikffchdembbjaaUtil
import Derived.Test.YtikffchdembbjaaLawKit
import Derived.Test.YtikffchdembbjaaInts
import Derived.Deep.RegionHeld3
set_option linter.unusedVariables false
set_option linter.unusedSimpArgs false
set_option maxRecDepth 100000
namespace Go.Proofs.Ytikffchdembbjaa
open Go.RowKit

abbrev Outcome := Int × Int × List Int × Int
def OutcomeR : Rp Outcome := pairR intR (pairR intR (pairR (sliceR 3 intR) (intR)))
def mszOutcome (x : Outcome) : Nat := (x.2.2.1).length
def mszLOutcome (l : List Outcome) : Nat := l.length + (l.map mszOutcome).sum
theorem mszOutcome_at {l : List Outcome} {k : Nat} (hk : k < l.length) : mszOutcome l[k] ≤ mszLOutcome l := by have := mem_sum_le (f := mszOutcome) (List.getElem_mem hk); unfold mszLOutcome; omega
theorem mszLOutcome_len (l : List Outcome) : l.length ≤ mszLOutcome l := by unfold mszLOutcome; omega
theorem Outcome_rel {w : World} {lo hi : Nat} {cs : List Value} {x : Outcome} (h : OutcomeR.rel w lo hi cs x) : ∃ x0 x1 A2 n2 c2 s2 x3, cs = ([.int .i64 x0, .int .i64 x1, .slice A2 n2 c2, .int .i64 x3] : List Value) ∧ x = (x0, x1, s2, x3) ∧ I64 x0 ∧ I64 x1 ∧ Sl intR w lo hi A2 n2 c2 s2 ∧ I64 x3 := by
  obtain ⟨_, _, rfl, ⟨rfl, i0⟩, _, _, rfl, ⟨rfl, i1⟩, _, _, rfl, ⟨A2, n2, c2, rfl, h2⟩, ⟨rfl, i3⟩⟩ := h
  exact ⟨x.1, x.2.1, A2, n2, c2, x.2.2.1, x.2.2.2, rfl, rfl, i0, i1, h2, i3⟩
theorem Outcome_own {w : World} {x0 : Int} {x1 : Int} {A2 : Option Addr} {n2 c2 : Nat} {s2 : List Int} {x3 : Int} {F2 : List Nat} (o2 : OwnSl intR w 3 F2 (.slice A2 n2 c2) s2) (i0 : I64 x0) (i1 : I64 x1) (i3 : I64 x3) (hF : (F2).Nodup) : OutcomeR.own w (F2) [.int .i64 x0, .int .i64 x1, .slice A2 n2 c2, .int .i64 x3] (x0, x1, s2, x3) := by
  exact ⟨[_], [_, _, _], [], F2, rfl, by simp, ⟨rfl, rfl, i0⟩, ⟨[_], [_, _], [], F2, rfl, by simp, ⟨rfl, rfl, i1⟩, ⟨[_], [_], F2, [], rfl, by simp, ⟨A2, n2, c2, rfl, o2⟩, ⟨rfl, rfl, i3⟩, by simp_all [List.nodup_append]⟩, by simp_all [List.nodup_append]⟩, by simp_all [List.nodup_append]⟩
theorem Outcome_sl2 {w : World} {F : List Nat} {x0 : Int} {x1 : Int} {A2 : Option Addr} {n2 c2 : Nat} {s2 : List Int} {x3 : Int} (h : OutcomeR.own w F [.int .i64 x0, .int .i64 x1, .slice A2 n2 c2, .int .i64 x3] (x0, x1, s2, x3)) : Sl intR w 0 w.heap.size A2 n2 c2 s2 := by
  have hr := OutcomeR.ownRel h (fun k hk => ⟨Nat.zero_le k, OutcomeR.ownLt h k hk⟩)
  obtain ⟨x0q, x1q, A2q, n2q, c2q, s2q, x3q, e, hx, i0, i1, h2, i3⟩ := Outcome_rel hr
  simp only [List.cons.injEq, Value.slice.injEq, Value.int.injEq, Value.bool.injEq, and_true, true_and, Prod.mk.injEq] at e hx
  simp only [e, hx]; exact h2
theorem Outcome_at {w : World} {lo hi : Nat} {A : Option Addr} {n c k : Nat} {l : List Outcome} (h : Sl OutcomeR w lo hi A n c l) (hk : k < n) :
    ∃ b off x0 x1 A2 n2 c2 s2 x3, A = some ⟨b, off, none⟩ ∧ lo ≤ b ∧ b < hi ∧ l[k]'(by have := h.1; omega) = (x0, x1, s2, x3) ∧ I64 x0 ∧ I64 x1 ∧ Sl intR w lo hi A2 n2 c2 s2 ∧ I64 x3 ∧ w.cell? ⟨b, off + k * 4, none⟩ = some (.int .i64 x0) ∧ w.cell? ⟨b, off + k * 4 + 1, none⟩ = some (.int .i64 x1) ∧ w.cell? ⟨b, off + k * 4 + 2, none⟩ = some (.slice A2 n2 c2) ∧ w.cell? ⟨b, off + k * 4 + 3, none⟩ = some (.int .i64 x3) := by
  obtain ⟨b, off, cs, rfl, hb1, hb2, hr, hc⟩ := h.at_ hk
  obtain ⟨x0, x1, A2, n2, c2, s2, x3, rfl, hx, i0, i1, h2, i3⟩ := Outcome_rel hr
  exact ⟨b, off, x0, x1, A2, n2, c2, s2, x3, rfl, hb1, hb2, hx, i0, i1, h2, i3, hc 0 (by simp), hc 1 (by simp), hc 2 (by simp), hc 3 (by simp)⟩
theorem rdOutcome : Rd Try.prog 27 OutcomeR := rd_struct Try.underlying27 (by kernel_rfl) (rdF_cons rfl (by kernel_rfl) (rd_int Try.underlying3) (rdF_cons rfl (by kernel_rfl) (rd_int Try.underlying3) (rdF_cons rfl (by kernel_rfl) rdInts (rdF_one rfl (by kernel_rfl) (rd_int Try.underlying3)) (by decide)) (by decide)) (by decide))
def RetToOutcome (x0 : Int) (x1 : Int) (s2 : List Int) (x3 : Int) (w : World) (e : Ending) (w' : World) : Prop :=
  ∃ F A2 n2 c2, e = .returned (.agg #[.int .i64 x0, .int .i64 x1, .slice A2 n2 c2, .int .i64 x3]) ∧ OutcomeR.own w' F [.int .i64 x0, .int .i64 x1, .slice A2 n2 c2, .int .i64 x3] (x0, x1, s2, x3) ∧ (∀ k, k ∈ F → w.heap.size ≤ k) ∧ Below w.heap.size w w'
theorem lawsToOutcome (w : World) (lo hi : Nat) (x0 : Int) (x1 : Int) (A2 : Option Addr) (n2 c2 : Nat) (s2 : List Int) (x3 : Int) (h2 : Sl intR w lo hi A2 n2 c2 s2) (hh : hi ≤ w.heap.size) (m2 : s2.length ≤ 1048576) (i0 : I64 x0) (i1 : I64 x1) (i3 : I64 x3) :
    Calls Try.prog 18 #[.agg #[.int .i64 x0, .int .i64 x1, .slice A2 n2 c2, .int .i64 x3]] w (RetToOutcome x0 x1 s2 x3 w) := by
  go_enter Try.func18, Try.ntmps18
  go_wp2_with fail
  refine (lawsToIntS _ lo hi n2 c2 A2 s2 (h2.below (B := w.heap.size) (by (repeat (first | with_reducible exact Below.refl _ _ | with_reducible assumption | with_reducible refine below_alloc ?_ _ | ((with_reducible refine Below.setCell ?_ ?_ _); rotate_left; (· first | exact Nat.le_refl _ | (simp; done) | (simp; omega))) | with_reducible refine below_drewN ?_ _ | with_reducible refine Below.drew ?_ | with_reducible refine below_then ?_ (by with_reducible assumption)))) hh) (by first | omega | (simp; omega)) (by have := h2.lenEq; omega)).mono ?_
  rintro e w2 ⟨F2, A2', n2', c2', rfl, o2, f2, b2⟩
  obtain ⟨hc2, hf2⟩ := bcell b2
  have hz2 := b2.size
  try simp at hz2
  have hv2 : w.heap.size < w2.heap.size := by omega
  have hx2 : w.heap.size + 1 < w2.heap.size := by omega
  have hy2 : w.heap.size + 1 + 1 < w2.heap.size := by omega
  have g2 : ∀ k, k ∈ F2 → w.heap.size + 3 ≤ k := fun k hk => by have := f2 k hk; simp at this; omega
  have l2 := o2.lt
  go_wp2_with fail
  refine bodyPost_ret (v := .agg #[.int .i64 x0, .int .i64 x1, .slice A2' n2' c2', .int .i64 x3]) (by simp [results, Try.results18, go_sem, hc2, hf2, hv2, hx2, hy2]) rfl ?_
  have k2 := fun (W : World) (hW : Fr [w.heap.size, w.heap.size + 1, w.heap.size + 1 + 1] w2 W) => o2.fr hW (fun k hk hk' => by have := g2 k hk; simp at hk'; omega)
  exact ⟨_, A2', n2', c2', rfl, Outcome_own (k2 _ (by (repeat (first | with_reducible exact Fr.refl _ _ | with_reducible assumption | ((with_reducible refine Fr.setCell ?_ ?_ _); rotate_left; (· simp; done)) | with_reducible refine Fr.drewN ?_ _ | with_reducible refine Fr.drew ?_ | with_reducible refine Fr.alloc ?_ _ | with_reducible refine Fr.trans ?_ (Fr.of_below (by with_reducible assumption)))))) i0 i1 i3 o2.nodup, fun k hk => by have := g2 k hk; omega, by (repeat (first | with_reducible exact Below.refl _ _ | with_reducible assumption | with_reducible refine below_alloc ?_ _ | ((with_reducible refine Below.setCell ?_ ?_ _); rotate_left; (· first | exact Nat.le_refl _ | (simp; done) | (simp; omega))) | with_reducible refine below_drewN ?_ _ | with_reducible refine Below.drew ?_ | with_reducible refine below_then ?_ (by with_reducible assumption)))⟩
theorem lawsEqOutcome (w : World) (lo hi lo' hi' : Nat) (x0 : Int) (x1 : Int) (A2 : Option Addr) (n2 c2 : Nat) (s2 : List Int) (x3 : Int) (x0' : Int) (x1' : Int) (A2' : Option Addr) (n2' c2' : Nat) (s2' : List Int) (x3' : Int) (h2 : Sl intR w lo hi A2 n2 c2 s2) (h2' : Sl intR w lo' hi' A2' n2' c2' s2') (hh : hi ≤ w.heap.size) (hh' : hi' ≤ w.heap.size) :
    Calls Try.prog 20 #[.agg #[.int .i64 x0, .int .i64 x1, .slice A2 n2 c2, .int .i64 x3], .agg #[.int .i64 x0', .int .i64 x1', .slice A2' n2' c2', .int .i64 x3']] w (RetB (eqB (x0, x1, s2, x3) (x0', x1', s2', x3')) w) := by
  go_enter Try.func20, Try.ntmps20
  go_wp2_with fail
  all_goals try (go_ret; exact RetB.mk (by simp_all [eqB]) (by (repeat (first | with_reducible exact Below.refl _ _ | with_reducible assumption | with_reducible refine below_alloc ?_ _ | ((with_reducible refine Below.setCell ?_ ?_ _); rotate_left; (· first | exact Nat.le_refl _ | (simp; done) | (simp; omega))) | with_reducible refine below_drewN ?_ _ | with_reducible refine Below.drew ?_ | with_reducible refine below_then ?_ (by with_reducible assumption)))))
  refine (lawsEqIntS _ lo hi lo' hi' n2 n2' c2 c2' A2 A2' s2 s2' (h2.below (B := w.heap.size) (by (repeat (first | with_reducible exact Below.refl _ _ | with_reducible assumption | with_reducible refine below_alloc ?_ _ | ((with_reducible refine Below.setCell ?_ ?_ _); rotate_left; (· first | exact Nat.le_refl _ | (simp; done) | (simp; omega))) | with_reducible refine below_drewN ?_ _ | with_reducible refine Below.drew ?_ | with_reducible refine below_then ?_ (by with_reducible assumption)))) hh) (h2'.below (B := w.heap.size) (by (repeat (first | with_reducible exact Below.refl _ _ | with_reducible assumption | with_reducible refine below_alloc ?_ _ | ((with_reducible refine Below.setCell ?_ ?_ _); rotate_left; (· first | exact Nat.le_refl _ | (simp; done) | (simp; omega))) | with_reducible refine below_drewN ?_ _ | with_reducible refine Below.drew ?_ | with_reducible refine below_then ?_ (by with_reducible assumption)))) hh') (by first | omega | (simp; omega)) (by first | omega | (simp; omega))).mono ?_
  rintro e w2 ⟨rfl, b2⟩
  obtain ⟨hc2, hf2⟩ := bcell b2
  have hz2 := b2.size
  try simp at hz2
  have hv2 : w.heap.size < w2.heap.size := by omega
  have hx2 : w.heap.size + 1 < w2.heap.size := by omega
  go_wp2_with fail
  all_goals (go_ret; exact RetB.mk (by simp_all [eqB]) (by (repeat (first | with_reducible exact Below.refl _ _ | with_reducible assumption | with_reducible refine below_alloc ?_ _ | ((with_reducible refine Below.setCell ?_ ?_ _); rotate_left; (· first | exact Nat.le_refl _ | (simp; done) | (simp; omega))) | with_reducible refine below_drewN ?_ _ | with_reducible refine Below.drew ?_ | with_reducible refine below_then ?_ (by with_reducible assumption)))))
theorem lawsSzOutcome (w : World) (lo hi : Nat) (x0 : Int) (x1 : Int) (A2 : Option Addr) (n2 c2 : Nat) (s2 : List Int) (x3 : Int) (hA2 : Sl intR w lo hi A2 n2 c2 s2) (hh : hi ≤ w.heap.size) (left : Int) (h1 : 0 ≤ left) (h2 : left ≤ 1048576) :
    Calls Try.prog 16 #[.agg #[.int .i64 x0, .int .i64 x1, .slice A2 n2 c2, .int .i64 x3], .int .i64 left] w (RetSz left ((s2.length : Nat) : Int) w) := by
  go_enter Try.func16, Try.ntmps16
  go_wp2_with fail
  have j2 := hA2.lenEq
  refine (lawsSzIntS _ n2 c2 A2 left (by omega) (by omega) hA2.lenLe).mono ?_
  rintro e w2 ⟨r2, rfl, hr2, b2⟩
  obtain ⟨hc2, hf2⟩ := bcell b2
  have hz2 := b2.size
  try simp at hz2
  have hv2 : w.heap.size < w2.heap.size := by omega
  rcases hr2 with rfl | ⟨q2, t2⟩
  · go_wp2_with fail
    go_ret
    exact ⟨_, rfl, Or.inl rfl, by (repeat (first | with_reducible exact Below.refl _ _ | with_reducible assumption | with_reducible refine below_alloc ?_ _ | ((with_reducible refine Below.setCell ?_ ?_ _); rotate_left; (· first | exact Nat.le_refl _ | (simp; done) | (simp; omega))) | with_reducible refine below_drewN ?_ _ | with_reducible refine Below.drew ?_ | with_reducible refine below_then ?_ (by with_reducible assumption)))⟩
  have v2 := Lib.hid t2
  clear t2
  have u2 : r2 ≤ 1048576 := by have := v2.out; omega
  go_wp2_with fail
  go_ret
  exact ⟨_, rfl, Or.inr ⟨by omega, by have := v2.out; omega⟩, by (repeat (first | with_reducible exact Below.refl _ _ | with_reducible assumption | with_reducible refine below_alloc ?_ _ | ((with_reducible refine Below.setCell ?_ ?_ _); rotate_left; (· first | exact Nat.le_refl _ | (simp; done) | (simp; omega))) | with_reducible refine below_drewN ?_ _ | with_reducible refine Below.drew ?_ | with_reducible refine below_then ?_ (by with_reducible assumption)))⟩
end Go.Proofs.Ytikffchdembbjaa
