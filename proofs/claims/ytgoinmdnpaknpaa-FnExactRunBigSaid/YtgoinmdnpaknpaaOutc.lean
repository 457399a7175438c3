/- Several texts in one: TyOutcome, MkOutcome, OcOutcome, HdOutcome. -/
import Derived.Test.YtgoinmdnpaknpaaKit1
import Derived.Deep.RegionHeld3

/- Outcome: how it lies in cells; the laws' own helpers over it. Printed by typegen.py. Walks. -/
set_option linter.unusedVariables false
set_option linter.unusedSimpArgs false
set_option maxRecDepth 100000
namespace Go.Proofs.Ytgoinmdnpaknpaa
open Go.RowKit

abbrev Outcome := Int × Int × List Int × Int
def OutcomeR : Rp Outcome := pairR intR (pairR intR (pairR (sliceR 3 intR) (intR)))
def mszOutcome (x : Outcome) : Nat := (x.2.2.1).length
def mszLOutcome (l : List Outcome) : Nat := l.length + (l.map mszOutcome).sum
theorem mszOutcome_at {l : List Outcome} {k : Nat} (hk : k < l.length) : mszOutcome l[k] ≤ mszLOutcome l := by have := mem_sum_le (f := mszOutcome) (List.getElem_mem hk); unfold mszLOutcome; omega
theorem mszLOutcome_len (l : List Outcome) : l.length ≤ mszLOutcome l := by unfold mszLOutcome; omega
theorem Outcome_rel {w : World} {lo hi : Nat} {cs : List Value} {x : Outcome} (h : OutcomeR.rel w lo hi cs x) : ∃ x0 x1 A2 n2 c2 s2 x3, cs = ([.int .i64 x0, .int .i64 x1, .slice A2 n2 c2, .int .i64 x3] : List Value) ∧ x = (x0, x1, s2, x3) ∧ I64 x0 ∧ I64 x1 ∧ Sl intR w lo hi A2 n2 c2 s2 ∧ I64 x3 := by
  obtain ⟨_, _, rfl, ⟨rfl, i0⟩, _, _, rfl, ⟨rfl, i1⟩, _, _, rfl, ⟨A2, n2, c2, rfl, h2⟩, ⟨rfl, i3⟩⟩ := h
  exact ⟨x.1, x.2.1, A2, n2, c2, x.2.2.1, x.2.2.2, rfl, rfl, i0, i1, h2, i3⟩
theorem Outcome_own {w : World} {x0 : Int} {x1 : Int} {A2 : Option Addr} {n2 c2 : Nat} {s2 : List Int} {x3 : Int} {F2 : List Nat} (o2 : OwnSl intR w 3 F2 (.slice A2 n2 c2) s2) (i0 : I64 x0) (i1 : I64 x1) (i3 : I64 x3) (hF : (F2).Nodup) : OutcomeR.own w (F2) [.int .i64 x0, .int .i64 x1, .slice A2 n2 c2, .int .i64 x3] (x0, x1, s2, x3) := by
  exact ⟨[_], [_, _, _], [], F2, rfl, by simp, ⟨rfl, rfl, i0⟩, ⟨[_], [_, _], [], F2, rfl, by simp, ⟨rfl, rfl, i1⟩, ⟨[_], [_], F2, [], rfl, by simp, ⟨A2, n2, c2, rfl, o2⟩, ⟨rfl, rfl, i3⟩, by simp_all [List.nodup_append]⟩, by simp_all [List.nodup_append]⟩, by simp_all [List.nodup_append]⟩
theorem Outcome_sl2 {w : World} {F : List Nat} {x0 : Int} {x1 : Int} {A2 : Option Addr} {n2 c2 : Nat} {s2 : List Int} {x3 : Int} (h : OutcomeR.own w F [.int .i64 x0, .int .i64 x1, .slice A2 n2 c2, .int .i64 x3] (x0, x1, s2, x3)) : Sl intR w 0 w.heap.size A2 n2 c2 s2 := by
  have hr := OutcomeR.ownRel h (fun k hk => ⟨Nat.zero_le k, OutcomeR.ownLt h k hk⟩)
  obtain ⟨x0q, x1q, A2q, n2q, c2q, s2q, x3q, e, hx, i0, i1, h2, i3⟩ := Outcome_rel hr
  simp only [List.cons.injEq, Value.slice.injEq, Value.int.injEq, Value.bool.injEq, and_true, true_and, Prod.mk.injEq] at e hx
  simp only [e, hx]; exact h2
theorem Outcome_at {w : World} {lo hi : Nat} {A : Option Addr} {n c k : Nat} {l : List Outcome} (h : Sl OutcomeR w lo hi A n c l) (hk : k < n) :
    ∃ b off x0 x1 A2 n2 c2 s2 x3, A = some ⟨b, off, none⟩ ∧ lo ≤ b ∧ b < hi ∧ l[k]'(by have := h.1; omega) = (x0, x1, s2, x3) ∧ I64 x0 ∧ I64 x1 ∧ Sl intR w lo hi A2 n2 c2 s2 ∧ I64 x3 ∧ w.cell? ⟨b, off + k * 4, none⟩ = some (.int .i64 x0) ∧ w.cell? ⟨b, off + k * 4 + 1, none⟩ = some (.int .i64 x1) ∧ w.cell? ⟨b, off + k * 4 + 2, none⟩ = some (.slice A2 n2 c2) ∧ w.cell? ⟨b, off + k * 4 + 3, none⟩ = some (.int .i64 x3) := by
  obtain ⟨b, off, cs, rfl, hb1, hb2, hr, hc⟩ := h.at_ hk
  obtain ⟨x0, x1, A2, n2, c2, s2, x3, rfl, hx, i0, i1, h2, i3⟩ := Outcome_rel hr
  exact ⟨b, off, x0, x1, A2, n2, c2, s2, x3, rfl, hb1, hb2, hx, i0, i1, h2, i3, hc 0 (by simp), hc 1 (by simp), hc 2 (by simp), hc 3 (by simp)⟩
theorem lawsEqOutcome (w : World) (lo hi lo' hi' : Nat) (x0 : Int) (x1 : Int) (A2 : Option Addr) (n2 c2 : Nat) (s2 : List Int) (x3 : Int) (x0' : Int) (x1' : Int) (A2' : Option Addr) (n2' c2' : Nat) (s2' : List Int) (x3' : Int) (h2 : Sl intR w lo hi A2 n2 c2 s2) (h2' : Sl intR w lo' hi' A2' n2' c2' s2') (hh : hi ≤ w.heap.size) (hh' : hi' ≤ w.heap.size) :
    Calls Try.prog 24 #[.agg #[.int .i64 x0, .int .i64 x1, .slice A2 n2 c2, .int .i64 x3], .agg #[.int .i64 x0', .int .i64 x1', .slice A2' n2' c2', .int .i64 x3']] w (RetB (eqB (x0, x1, s2, x3) (x0', x1', s2', x3')) w) := by
  go_enter Try.func24, Try.ntmps24
  go_wp2_with fail
  all_goals try (go_ret; exact RetB.mk (by simp_all [eqB]) (by exact belA))
  refine (lawsEqIntS _ lo hi lo' hi' n2 n2' c2 c2' A2 A2' s2 s2' (h2.below (B := w.heap.size) (by exact belA) hh) (h2'.below (B := w.heap.size) (by exact belA) hh') (by first | omega | (simp; omega)) (by first | omega | (simp; omega))).mono ?_
  rintro e w2 ⟨rfl, b2⟩
  obtain ⟨hc2, hf2⟩ := bcell b2
  have hz2 := b2.size
  try simp at hz2
  have hv2 : w.heap.size < w2.heap.size := by omega
  have hx2 : w.heap.size + 1 < w2.heap.size := by omega
  go_wp2_with fail
  all_goals (go_ret; exact RetB.mk (by simp_all [eqB]) (by exact belA))
end Go.Proofs.Ytgoinmdnpaknpaa

/- Marks over slices of Outcome. Printed by markgen.py. Walks. -/
set_option linter.unusedVariables false
set_option linter.unusedSimpArgs false
set_option linter.unnecessarySimpa false
set_option maxRecDepth 100000
namespace Go.Proofs.Ytgoinmdnpaknpaa
open Go.RowKit

def cntOutcome (x : Outcome) : Nat := 1 + 1 + cntL cntInt (x.2.2.1) + 1
def mkOutcome (k : Int) (x : Outcome) : Outcome := (k, (k + 1), mkL mkInt cntInt ((k + 1) + 1) (x.2.2.1), (((k + 1) + 1) + (cntL cntInt (x.2.2.1) : Int)))
theorem Outcome_ownx {w : World} {F : List Nat} {cs : List Value} {x : Outcome} (h : OutcomeR.own w F cs x) : ∃ x0 x1 A2 n2 c2 s2 x3 F2, cs = ([.int .i64 x0, .int .i64 x1, .slice A2 n2 c2, .int .i64 x3] : List Value) ∧ x = (x0, x1, s2, x3) ∧ F = F2 ∧ (F2 : List Nat).Nodup ∧ I64 x0 ∧ I64 x1 ∧ OwnSl intR w 3 F2 (.slice A2 n2 c2) s2 ∧ I64 x3 := by
  obtain ⟨_, _, _, _, rfl, rfl, ⟨rfl, rfl, i0⟩, ⟨_, _, _, _, rfl, rfl, ⟨rfl, rfl, i1⟩, ⟨_, _, F2, _, rfl, rfl, ⟨A2, n2, c2, rfl, o2⟩, ⟨rfl, rfl, i3⟩, nd2⟩, nd1⟩, nd0⟩ := h
  exact ⟨x.1, x.2.1, A2, n2, c2, x.2.2.1, x.2.2.2, F2, rfl, rfl, by simp, by simpa using nd0, i0, i1, o2, i3⟩
set_option maxHeartbeats 1000000 in
theorem mkOutcomeTop (w : World) (x0 : Int) (x1 : Int) (A2 : Option Addr) (n2 c2 : Nat) (s2 : List Int) (x3 : Int) (k : Int) (F2 : List Nat) (o2 : OwnSl intR w 3 F2 (.slice A2 n2 c2) s2) (hnd : (F2 : List Nat).Nodup) (h1 : 0 ≤ k) (h2 : k + (cntL cntInt s2 : Nat) ≤ 1152921504606846976) :
    Calls Try.prog 27 #[.agg #[.int .i64 x0, .int .i64 x1, .slice A2 n2 c2, .int .i64 x3], .int .i64 k] w fun e w' => ∃ r, e = .returned (.int .i64 r) ∧ r = k + (cntL cntInt s2 : Nat) ∧ OwnSl intR w' 3 F2 (.slice A2 n2 c2) (mkL mkInt cntInt k s2) ∧ Fr F2 w w' := by
  have q2 : ∀ z, z ∈ F2 → z < w.heap.size := o2.lt
  go_enter Try.func27, Try.ntmps27
  go_wp2_with fail
  refine (mkInts _ n2 c2 A2 F2 s2 k (o2.below (by exact belA)) (by omega) (by omega)).mono ?_
  rintro e w2 ⟨k2, rfl, hk2, p2, f2⟩
  have hq2 := Lib.hid hk2
  have z2 : 0 ≤ k2 := by omega
  have y2 : k2 + (0 : Nat) ≤ 1152921504606846976 := by omega
  clear hk2
  have fa : Fr F2 w w2 := fr_then (f2.more (fun q hq => by simp [hq])) (Fr.of_below (by exact belA))
  have bx2 : ∀ o, w2.cell? ⟨w.heap.size, o, none⟩ = (#[.int .i64 x0, .int .i64 x1, .slice A2 n2 c2, .int .i64 x3] : Array Value)[o]? := fun o => by
    rw [World.cell?_of_block (f2.block w.heap.size (by simp) (fun hh => by have := q2 _ hh; omega))]
    exact cell_of_row _ _ _ _ _ _ (heap_alloc_new w _)
  have hs2 : w.heap.size < w2.heap.size := by have := f2.size; first | omega | (simp at this; omega)
  have e2_0 : w2.cell? ⟨w.heap.size, 0, none⟩ = some (.int .i64 x0) := bx2 0
  have e2_1 : w2.cell? ⟨w.heap.size, 1, none⟩ = some (.int .i64 x1) := bx2 1
  have e2_2 : w2.cell? ⟨w.heap.size, 2, none⟩ = some (.slice A2 n2 c2) := bx2 2
  have e2_3 : w2.cell? ⟨w.heap.size, 3, none⟩ = some (.int .i64 x3) := bx2 3
  have bxH2 := Lib.hid bx2
  skip
  go_wp2_with fail
  go_ret
  exact ⟨_, rfl, by have a2 := hq2.out; omega, by have := p2; have a2 := hq2.out; simpa [a2] using this, fa⟩
end Go.Proofs.Ytgoinmdnpaknpaa

/- Outcome: own data field by field; how many marks. Printed by ocgen.py. -/
set_option linter.unusedVariables false
set_option linter.unusedSimpArgs false
set_option maxRecDepth 100000
namespace Go.Proofs.Ytgoinmdnpaknpaa
open Go.RowKit

theorem Outcome_ownc {w : World} {F : List Nat} {x0 : Int} {x1 : Int} {A2 : Option Addr} {n2 c2 : Nat} {s2 : List Int} {x3 : Int} (h : OutcomeR.own w F [.int .i64 x0, .int .i64 x1, .slice A2 n2 c2, .int .i64 x3] (x0, x1, s2, x3)) : ∃ F2, F = F2 ∧ (F2 : List Nat).Nodup ∧ OwnSl intR w 3 F2 (.slice A2 n2 c2) s2 := by
  obtain ⟨x0q, x1q, A2q, n2q, c2q, s2q, x3q, F2, ec, ex, eF, nd, i0, i1, o2, i3⟩ := Outcome_ownx h
  simp only [List.cons.injEq, Value.slice.injEq, Value.int.injEq, Value.bool.injEq, and_true, true_and, Prod.mk.injEq] at ec ex
  refine ⟨F2, eF, nd, ?_⟩
  · simp only [ec, ex]; exact o2
theorem cntOutcome_le1 (x : Outcome) : cntOutcome x ≤ 16 + 16 * mszOutcome x := by
  have t2 := cntInt_le (x.2.2.1)
  simp only [cntOutcome, mszOutcome]; omega
theorem cntOutcome_le (l : List Outcome) : cntL cntOutcome l ≤ 16 * mszLOutcome l := by
  induction l with
  | nil => simp [cntL]
  | cons x l ih => have := cntOutcome_le1 x; simp only [cntL, mszLOutcome, List.map_cons, List.sum_cons, List.length_cons] at *; omega
end Go.Proofs.Ytgoinmdnpaknpaa

/- Marks read back: Outcome. Printed by heldgen.py. Walks. -/
set_option linter.unusedVariables false
set_option linter.unusedSimpArgs false
set_option linter.unnecessarySimpa false
set_option maxRecDepth 100000
namespace Go.Proofs.Ytgoinmdnpaknpaa
open Go.RowKit

set_option maxHeartbeats 2000000 in
theorem hdOutcomeTop (w : World) (lo hi : Nat) (x0 : Int) (x1 : Int) (A2 : Option Addr) (n2 c2 : Nat) (s2 : List Int) (x3 : Int) (k : Int) (h2 : Sl intR w lo hi A2 n2 c2 (mkL mkInt cntInt k s2)) (hh : hi ≤ w.heap.size) (hk1 : 0 ≤ k) (hk2 : k + (cntL cntInt s2 : Int) ≤ 1152921504606846976) :
    Calls Try.prog 28 #[.agg #[.int .i64 x0, .int .i64 x1, .slice A2 n2 c2, .int .i64 x3], .int .i64 k] w (RetHd (k + (cntL cntInt s2 : Int)) w) := by
  go_enter Try.func28, Try.ntmps28
  go_wp2_with fail
  refine (hdInts _ lo hi n2 c2 A2 s2 k (h2.below (show Below w.heap.size w _ by exact belA) hh) (by simp; omega) (by omega) (by omega)).mono ?_
  rintro e w2 ⟨r2, rfl, q2, hx⟩
  have hb : Below w.heap.size w w2 := below_then (by exact belA) hx
  have hhr : hi ≤ w2.heap.size := by have := hb.size; omega
  obtain ⟨hcE, hfE⟩ := bcell hx
  clear hcE hfE
  have p2 : 0 ≤ r2 := by omega
  replace q2 := Lib.hid q2
  clear hx
  have hK := Lib.hid (show r2 = k + (cntL cntInt s2 : Int) by have := q2.out; omega)
  go_wp2_with fail
  go_ret
  exact ⟨_, rfl, hK.out, hb⟩
end Go.Proofs.Ytgoinmdnpaknpaa
