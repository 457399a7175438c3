/- Several texts in one: TyIns, AnyIns, TyRow, AnyRow, TyCode, AnyCode, TyImage. -/
import Derived.Test.YtgoinmdnpaknpaaGreatKit1
import Derived.Deep.RegionHeld3

/- Ins: how it lies in cells; the laws' own helpers over it. Printed by typegen.py. Walks. -/
set_option linter.unusedVariables false
set_option linter.unusedSimpArgs false
set_option maxRecDepth 100000
namespace Go.Proofs.YtgoinmdnpaknpaaGreat
open Go.RowKit

abbrev Ins := Int × Int
def InsR : Rp Ins := pairR intR (intR)
theorem Ins_rel {w : World} {lo hi : Nat} {cs : List Value} {x : Ins} (h : InsR.rel w lo hi cs x) : ∃ x0 x1, cs = ([.int .i64 x0, .int .i64 x1] : List Value) ∧ x = (x0, x1) ∧ I64 x0 ∧ I64 x1 := by
  obtain ⟨_, _, rfl, ⟨rfl, i0⟩, ⟨rfl, i1⟩⟩ := h
  exact ⟨x.1, x.2, rfl, rfl, i0, i1⟩
theorem Ins_own (w : World) (x0 : Int) (x1 : Int) (i0 : I64 x0) (i1 : I64 x1) : InsR.own w [] [.int .i64 x0, .int .i64 x1] (x0, x1) := ⟨[_], [_], [], [], rfl, rfl, ⟨rfl, rfl, i0⟩, ⟨rfl, rfl, i1⟩, by simp⟩
theorem Ins_at {w : World} {lo hi : Nat} {A : Option Addr} {n c k : Nat} {l : List Ins} (h : Sl InsR w lo hi A n c l) (hk : k < n) :
    ∃ b off x0 x1, A = some ⟨b, off, none⟩ ∧ lo ≤ b ∧ b < hi ∧ l[k]'(by have := h.1; omega) = (x0, x1) ∧ I64 x0 ∧ I64 x1 ∧ w.cell? ⟨b, off + k * 2, none⟩ = some (.int .i64 x0) ∧ w.cell? ⟨b, off + k * 2 + 1, none⟩ = some (.int .i64 x1) := by
  obtain ⟨b, off, cs, rfl, hb1, hb2, hr, hc⟩ := h.at_ hk
  obtain ⟨x0, x1, rfl, hx, i0, i1⟩ := Ins_rel hr
  exact ⟨b, off, x0, x1, rfl, hb1, hb2, hx, i0, i1, hc 0 (by simp), hc 1 (by simp)⟩
theorem lawsEqIns (w : World) (lo hi lo' hi' : Nat) (x0 : Int) (x1 : Int) (x0' : Int) (x1' : Int)   (hh : hi ≤ w.heap.size) (hh' : hi' ≤ w.heap.size) :
    Calls Tryz.prog 104 #[.agg #[.int .i64 x0, .int .i64 x1], .agg #[.int .i64 x0', .int .i64 x1']] w (RetB (eqB (x0, x1) (x0', x1')) w) := by
  go_enter Tryz.func104, Tryz.ntmps104
  go_wp2_with fail
  all_goals (go_ret; exact RetB.mk (by simp_all [eqB]) (by exact belA))
theorem lawsEqInsS (w : World) (lo hi lo' hi' n n' c c' : Nat) (A A' : Option Addr) (l l' : List Ins) (h : Sl InsR w lo hi A n c l) (h' : Sl InsR w lo' hi' A' n' c' l') (hh : hi ≤ w.heap.size) (hh' : hi' ≤ w.heap.size) :
    Calls Tryz.prog 78 #[.slice A n c, .slice A' n' c'] w (RetB (eqB l l') w) := by
  have e1 := h.lenEq
  have e2 := h'.lenEq
  have b1 := h.lenLe
  have b2 := h'.lenLe
  by_cases hn : n = n'
  · subst hn
    have hn' : ((n : Int) != (n : Int)) = false := by simp
    go_enter Tryz.func78, Tryz.ntmps78
    go_wp2
    go_loopw [5] (fun i wr => ∃ k : Nat, k ≤ n ∧ i = .int .i64 k ∧ l.take k = l'.take k ∧ Below w.heap.size w wr) (fun i _ => n - (intOf i).toNat)
    case atStart => exact ⟨0, Nat.zero_le _, rfl, rfl, Below.refl _ _⟩
    case round =>
      obtain ⟨k, hk, rfl, ht0, hb⟩ := hrel
      have ht := Lib.hid ht0
      clear ht0
      have hbs := hb.size
      by_cases hlt : k < n
      · obtain ⟨b, o, x0, x1, rfl, _, _, hl0, i0, i1, d0, d1⟩ := Ins_at (h.below hb hh) hlt
        obtain ⟨b', o', x0', x1', rfl, _, _, hl0', i0', i1', d0', d1'⟩ := Ins_at (h'.below hb hh') hlt
        have hl := Lib.hid hl0
        have hl' := Lib.hid hl0'
        clear hl0 hl0'
        have hst := Lib.hid (fun (he : l[k]'(by omega) = l'[k]'(by omega)) => take_eq_snoc ht.out (by omega) (by omega) he)
        have hne := Lib.hid (fun (he : ¬ l[k]'(by omega) = l'[k]'(by omega)) => ne_of_at (by omega) (by omega) he)
        by_cases he0 : (x0, x1) = (x0', x1')
        · have hd := eqB_true he0
          have hs := Lib.hid (hst.out (by rw [hl.out, hl'.out, he0]))
          clear he0
          go_wp2_with fail
          go_region_held3 (fun w' => w'.cell? ⟨b, o + k * 2, none⟩ = some (.int .i64 x0) ∧ w'.cell? ⟨b, o + k * 2 + 1, none⟩ = some (.int .i64 x1) ∧ w'.cell? ⟨b', o' + k * 2, none⟩ = some (.int .i64 x0') ∧ w'.cell? ⟨b', o' + k * 2 + 1, none⟩ = some (.int .i64 x1')) (first | exact ⟨d0, d1, d0', d1'⟩ | exact ⟨below_cell hb2 d0, below_cell hb2 d1, below_cell hb2 d0', below_cell hb2 d1'⟩)
            (first | (go_at_call 104; refine (lawsEqIns _ lo hi lo' hi' x0 x1 x0' x1'   (by first | omega | (simp; omega)) (by first | omega | (simp; omega))).mono ?_; rintro e w2 ⟨rfl, hb2⟩))
          have hb3 := below_then hb.drew hb2
          go_wp2_with fail
          go_roundw
          case rel => exact ⟨k + 1, by omega, by go_num, hs.out, hb3⟩
          case measure => simp [intOf]; omega
        · have hd := eqB_false he0
          have hs := Lib.hid (eqB_false (hne.out (by rw [hl.out, hl'.out]; exact he0)))
          clear he0
          go_wp2_with fail
          go_region_held3 (fun w' => w'.cell? ⟨b, o + k * 2, none⟩ = some (.int .i64 x0) ∧ w'.cell? ⟨b, o + k * 2 + 1, none⟩ = some (.int .i64 x1) ∧ w'.cell? ⟨b', o' + k * 2, none⟩ = some (.int .i64 x0') ∧ w'.cell? ⟨b', o' + k * 2 + 1, none⟩ = some (.int .i64 x1')) (first | exact ⟨d0, d1, d0', d1'⟩ | exact ⟨below_cell hb2 d0, below_cell hb2 d1, below_cell hb2 d0', below_cell hb2 d1'⟩)
            (first | (go_at_call 104; refine (lawsEqIns _ lo hi lo' hi' x0 x1 x0' x1'   (by first | omega | (simp; omega)) (by first | omega | (simp; omega))).mono ?_; rintro e w2 ⟨rfl, hb2⟩))
          have hb3 := below_then hb.drew hb2
          go_wp2_with fail
          go_ret
          exact RetB.mk hs.out.symm hb3
      · go_wp2_with fail
        go_ret
        exact RetB.mk (eqB_true (eq_of_takes ht.out (by omega) (by omega))).symm hb
  · have hn' : ((n : Int) != (n' : Int)) = true := by simp; omega
    have hd := Lib.hid (eqB_false (x := l) (y := l') (by rintro rfl; omega))
    go_enter Tryz.func78, Tryz.ntmps78
    go_wp2
    go_ret
    exact RetB.mk hd.out.symm (Below.refl _ _)
end Go.Proofs.YtgoinmdnpaknpaaGreat

/- slices.IndexFunc, slices.ContainsFunc over slices of Ins. Printed by anygen.py. Walks. -/
set_option linter.unusedVariables false
set_option linter.unusedSimpArgs false
set_option maxRecDepth 100000
namespace Go.Proofs.YtgoinmdnpaknpaaGreat
open Go.RowKit

theorem idxFuncIns (g : FuncId) (cap : Array Value) (p : Ins → Bool) (w : World) (lo hi n c : Nat) (A : Option Addr) (l : List Ins) (h : Sl InsR w lo hi A n c l) (hh : hi ≤ w.heap.size)
    (eg : ∀ (args : Array Value) (w : World), (callFunc g args).run Tryz.prog w = .ok (.enter g args) w)
    (hp : ∀ (W : World) (x0 : Int) (x1 : Int), (x0, x1) ∈ l → Below w.heap.size w W → I64 x0 → I64 x1 → Calls Tryz.prog g (#[.agg #[.int .i64 x0, .int .i64 x1]] ++ cap) W (RetB (p (x0, x1)) W)) :
    Calls Tryz.prog 108 #[.slice A n c, .func (.func g) #[] cap] w (RetIx (idxW p l) w) := by
  have e1 := h.lenEq
  have b1 := h.lenLe
  have HP := Lib.hid hp
  clear hp
  go_enter Tryz.func108, Tryz.ntmps108
  go_wp2
  go_loopw [8] (fun i wr => ∃ k : Nat, k ≤ n ∧ i = .int .i64 k ∧ (l.take k).any p = false ∧ Below w.heap.size w wr) (fun i _ => n - (intOf i).toNat)
  case atStart => exact ⟨0, Nat.zero_le _, rfl, rfl, Below.refl _ _⟩
  case round =>
    obtain ⟨k, hk, rfl, ht0, hb⟩ := hrel
    have ht := Lib.hid ht0
    clear ht0
    by_cases hlt : k < n
    · obtain ⟨b, o, x0, x1, rfl, _, _, hl0, i0, i1, d0, d1⟩ := Ins_at (h.below hb hh) hlt
      have hmem : (x0, x1) ∈ l := hl0 ▸ List.getElem_mem (l := l) (n := k) (by omega)
      have hok := Lib.hid (fun (hp : p (x0, x1) = false) => any_take_succ (p := p) ht.out (by omega) (by rw [hl0]; exact hp))
      have hno := Lib.hid (fun (hp : p (x0, x1) = true) => idxW_at (p := p) (l := l) (k := k) (by omega) ht.out (by rw [hl0]; exact hp))
      have HC := Lib.hid (fun W (hW : Below wr.heap.size wr W) => HP.out W x0 x1 hmem (below_then hb hW) i0 i1)
      clear hl0 hmem
      go_wp2_with fail
      refine (HC.out _ (by exact belA)).mono ?_
      rintro e w2 ⟨rfl, hb2⟩
      have hb3 := below_then hb (show Below wr.heap.size wr w2 by exact belA)
      clear HC
      by_cases hpx : p (x0, x1) = true
      · have hs := Lib.hid (hno.out hpx)
        go_wp2_with fail
        go_ret
        exact ⟨rfl_ix hs.out.symm, hb3⟩
      · have hpx : p (x0, x1) = false := by simpa using hpx
        have hs := Lib.hid (hok.out hpx)
        go_wp2_with fail
        go_roundw
        case rel => exact ⟨k + 1, by omega, by go_num, hs.out, hb3⟩
        case measure => simp [intOf]; omega
    · have hs := Lib.hid (idxW_none (p := p) (l := l) (by have := ht.out; rwa [List.take_of_length_le (by omega)] at this))
      go_wp2_with fail
      go_ret
      exact ⟨rfl_ix hs.out.symm, hb⟩
theorem conFuncIns (g : FuncId) (cap : Array Value) (p : Ins → Bool) (w : World) (lo hi n c : Nat) (A : Option Addr) (l : List Ins) (h : Sl InsR w lo hi A n c l) (hh : hi ≤ w.heap.size)
    (eg : ∀ (args : Array Value) (w : World), (callFunc g args).run Tryz.prog w = .ok (.enter g args) w)
    (hp : ∀ (W : World) (x0 : Int) (x1 : Int), (x0, x1) ∈ l → Below w.heap.size w W → I64 x0 → I64 x1 → Calls Tryz.prog g (#[.agg #[.int .i64 x0, .int .i64 x1]] ++ cap) W (RetB (p (x0, x1)) W)) :
    Calls Tryz.prog 93 #[.slice A n c, .func (.func g) #[] cap] w (RetB (l.any p) w) := by
  have HP := Lib.hid hp
  have EG := Lib.hid eg
  have e1 := h.lenEq
  have b1 := h.lenLe
  clear hp eg
  have hq := Lib.hid (idxW_any p l)
  obtain ⟨v, hv0⟩ : ∃ v, v = idxW p l := ⟨_, rfl⟩
  have hv := Lib.hid hv0
  clear hv0
  go_enter Tryz.func93, Tryz.ntmps93
  go_wp2_with fail
  refine (idxFuncIns g cap p _ lo hi n c A l h hh EG.out HP.out).mono ?_
  rintro e w2 ⟨rfl, hb⟩
  rw [← hv.out]
  go_wp2_with fail
  go_ret
  exact RetB.mk (by rw [← hq.out, ← hv.out]) hb
end Go.Proofs.YtgoinmdnpaknpaaGreat

/- Row: how it lies in cells; the laws' own helpers over it. Printed by typegen.py. Walks. -/
set_option linter.unusedVariables false
set_option linter.unusedSimpArgs false
set_option maxRecDepth 100000
namespace Go.Proofs.YtgoinmdnpaknpaaGreat
open Go.RowKit

abbrev Row := Int × Int × Int
def RowR : Rp Row := pairR intR (pairR intR (intR))
theorem Row_rel {w : World} {lo hi : Nat} {cs : List Value} {x : Row} (h : RowR.rel w lo hi cs x) : ∃ x0 x1 x2, cs = ([.int .i64 x0, .int .i64 x1, .int .i64 x2] : List Value) ∧ x = (x0, x1, x2) ∧ I64 x0 ∧ I64 x1 ∧ I64 x2 := by
  obtain ⟨_, _, rfl, ⟨rfl, i0⟩, _, _, rfl, ⟨rfl, i1⟩, ⟨rfl, i2⟩⟩ := h
  exact ⟨x.1, x.2.1, x.2.2, rfl, rfl, i0, i1, i2⟩
theorem Row_own (w : World) (x0 : Int) (x1 : Int) (x2 : Int) (i0 : I64 x0) (i1 : I64 x1) (i2 : I64 x2) : RowR.own w [] [.int .i64 x0, .int .i64 x1, .int .i64 x2] (x0, x1, x2) := ⟨[_], [_, _], [], [], rfl, rfl, ⟨rfl, rfl, i0⟩, ⟨[_], [_], [], [], rfl, rfl, ⟨rfl, rfl, i1⟩, ⟨rfl, rfl, i2⟩, by simp⟩, by simp⟩
theorem Row_at {w : World} {lo hi : Nat} {A : Option Addr} {n c k : Nat} {l : List Row} (h : Sl RowR w lo hi A n c l) (hk : k < n) :
    ∃ b off x0 x1 x2, A = some ⟨b, off, none⟩ ∧ lo ≤ b ∧ b < hi ∧ l[k]'(by have := h.1; omega) = (x0, x1, x2) ∧ I64 x0 ∧ I64 x1 ∧ I64 x2 ∧ w.cell? ⟨b, off + k * 3, none⟩ = some (.int .i64 x0) ∧ w.cell? ⟨b, off + k * 3 + 1, none⟩ = some (.int .i64 x1) ∧ w.cell? ⟨b, off + k * 3 + 2, none⟩ = some (.int .i64 x2) := by
  obtain ⟨b, off, cs, rfl, hb1, hb2, hr, hc⟩ := h.at_ hk
  obtain ⟨x0, x1, x2, rfl, hx, i0, i1, i2⟩ := Row_rel hr
  exact ⟨b, off, x0, x1, x2, rfl, hb1, hb2, hx, i0, i1, i2, hc 0 (by simp), hc 1 (by simp), hc 2 (by simp)⟩
theorem lawsEqRow (w : World) (lo hi lo' hi' : Nat) (x0 : Int) (x1 : Int) (x2 : Int) (x0' : Int) (x1' : Int) (x2' : Int)   (hh : hi ≤ w.heap.size) (hh' : hi' ≤ w.heap.size) :
    Calls Tryz.prog 105 #[.agg #[.int .i64 x0, .int .i64 x1, .int .i64 x2], .agg #[.int .i64 x0', .int .i64 x1', .int .i64 x2']] w (RetB (eqB (x0, x1, x2) (x0', x1', x2')) w) := by
  go_enter Tryz.func105, Tryz.ntmps105
  go_wp2_with fail
  all_goals (go_ret; exact RetB.mk (by simp_all [eqB]) (by exact belA))
theorem lawsEqRowS (w : World) (lo hi lo' hi' n n' c c' : Nat) (A A' : Option Addr) (l l' : List Row) (h : Sl RowR w lo hi A n c l) (h' : Sl RowR w lo' hi' A' n' c' l') (hh : hi ≤ w.heap.size) (hh' : hi' ≤ w.heap.size) :
    Calls Tryz.prog 79 #[.slice A n c, .slice A' n' c'] w (RetB (eqB l l') w) := by
  have e1 := h.lenEq
  have e2 := h'.lenEq
  have b1 := h.lenLe
  have b2 := h'.lenLe
  by_cases hn : n = n'
  · subst hn
    have hn' : ((n : Int) != (n : Int)) = false := by simp
    go_enter Tryz.func79, Tryz.ntmps79
    go_wp2
    go_loopw [5] (fun i wr => ∃ k : Nat, k ≤ n ∧ i = .int .i64 k ∧ l.take k = l'.take k ∧ Below w.heap.size w wr) (fun i _ => n - (intOf i).toNat)
    case atStart => exact ⟨0, Nat.zero_le _, rfl, rfl, Below.refl _ _⟩
    case round =>
      obtain ⟨k, hk, rfl, ht0, hb⟩ := hrel
      have ht := Lib.hid ht0
      clear ht0
      have hbs := hb.size
      by_cases hlt : k < n
      · obtain ⟨b, o, x0, x1, x2, rfl, _, _, hl0, i0, i1, i2, d0, d1, d2⟩ := Row_at (h.below hb hh) hlt
        obtain ⟨b', o', x0', x1', x2', rfl, _, _, hl0', i0', i1', i2', d0', d1', d2'⟩ := Row_at (h'.below hb hh') hlt
        have hl := Lib.hid hl0
        have hl' := Lib.hid hl0'
        clear hl0 hl0'
        have hst := Lib.hid (fun (he : l[k]'(by omega) = l'[k]'(by omega)) => take_eq_snoc ht.out (by omega) (by omega) he)
        have hne := Lib.hid (fun (he : ¬ l[k]'(by omega) = l'[k]'(by omega)) => ne_of_at (by omega) (by omega) he)
        by_cases he0 : (x0, x1, x2) = (x0', x1', x2')
        · have hd := eqB_true he0
          have hs := Lib.hid (hst.out (by rw [hl.out, hl'.out, he0]))
          clear he0
          go_wp2_with fail
          go_region_held3 (fun w' => w'.cell? ⟨b, o + k * 3, none⟩ = some (.int .i64 x0) ∧ w'.cell? ⟨b, o + k * 3 + 1, none⟩ = some (.int .i64 x1) ∧ w'.cell? ⟨b, o + k * 3 + 2, none⟩ = some (.int .i64 x2) ∧ w'.cell? ⟨b', o' + k * 3, none⟩ = some (.int .i64 x0') ∧ w'.cell? ⟨b', o' + k * 3 + 1, none⟩ = some (.int .i64 x1') ∧ w'.cell? ⟨b', o' + k * 3 + 2, none⟩ = some (.int .i64 x2')) (first | exact ⟨d0, d1, d2, d0', d1', d2'⟩ | exact ⟨below_cell hb2 d0, below_cell hb2 d1, below_cell hb2 d2, below_cell hb2 d0', below_cell hb2 d1', below_cell hb2 d2'⟩)
            (first | (go_at_call 105; refine (lawsEqRow _ lo hi lo' hi' x0 x1 x2 x0' x1' x2'   (by first | omega | (simp; omega)) (by first | omega | (simp; omega))).mono ?_; rintro e w2 ⟨rfl, hb2⟩))
          have hb3 := below_then hb.drew hb2
          go_wp2_with fail
          go_roundw
          case rel => exact ⟨k + 1, by omega, by go_num, hs.out, hb3⟩
          case measure => simp [intOf]; omega
        · have hd := eqB_false he0
          have hs := Lib.hid (eqB_false (hne.out (by rw [hl.out, hl'.out]; exact he0)))
          clear he0
          go_wp2_with fail
          go_region_held3 (fun w' => w'.cell? ⟨b, o + k * 3, none⟩ = some (.int .i64 x0) ∧ w'.cell? ⟨b, o + k * 3 + 1, none⟩ = some (.int .i64 x1) ∧ w'.cell? ⟨b, o + k * 3 + 2, none⟩ = some (.int .i64 x2) ∧ w'.cell? ⟨b', o' + k * 3, none⟩ = some (.int .i64 x0') ∧ w'.cell? ⟨b', o' + k * 3 + 1, none⟩ = some (.int .i64 x1') ∧ w'.cell? ⟨b', o' + k * 3 + 2, none⟩ = some (.int .i64 x2')) (first | exact ⟨d0, d1, d2, d0', d1', d2'⟩ | exact ⟨below_cell hb2 d0, below_cell hb2 d1, below_cell hb2 d2, below_cell hb2 d0', below_cell hb2 d1', below_cell hb2 d2'⟩)
            (first | (go_at_call 105; refine (lawsEqRow _ lo hi lo' hi' x0 x1 x2 x0' x1' x2'   (by first | omega | (simp; omega)) (by first | omega | (simp; omega))).mono ?_; rintro e w2 ⟨rfl, hb2⟩))
          have hb3 := below_then hb.drew hb2
          go_wp2_with fail
          go_ret
          exact RetB.mk hs.out.symm hb3
      · go_wp2_with fail
        go_ret
        exact RetB.mk (eqB_true (eq_of_takes ht.out (by omega) (by omega))).symm hb
  · have hn' : ((n : Int) != (n' : Int)) = true := by simp; omega
    have hd := Lib.hid (eqB_false (x := l) (y := l') (by rintro rfl; omega))
    go_enter Tryz.func79, Tryz.ntmps79
    go_wp2
    go_ret
    exact RetB.mk hd.out.symm (Below.refl _ _)
end Go.Proofs.YtgoinmdnpaknpaaGreat

/- slices.IndexFunc, slices.ContainsFunc over slices of Row. Printed by anygen.py. Walks. -/
set_option linter.unusedVariables false
set_option linter.unusedSimpArgs false
set_option maxRecDepth 100000
namespace Go.Proofs.YtgoinmdnpaknpaaGreat
open Go.RowKit

theorem idxFuncRow (g : FuncId) (cap : Array Value) (p : Row → Bool) (w : World) (lo hi n c : Nat) (A : Option Addr) (l : List Row) (h : Sl RowR w lo hi A n c l) (hh : hi ≤ w.heap.size)
    (eg : ∀ (args : Array Value) (w : World), (callFunc g args).run Tryz.prog w = .ok (.enter g args) w)
    (hp : ∀ (W : World) (x0 : Int) (x1 : Int) (x2 : Int), (x0, x1, x2) ∈ l → Below w.heap.size w W → I64 x0 → I64 x1 → I64 x2 → Calls Tryz.prog g (#[.agg #[.int .i64 x0, .int .i64 x1, .int .i64 x2]] ++ cap) W (RetB (p (x0, x1, x2)) W)) :
    Calls Tryz.prog 102 #[.slice A n c, .func (.func g) #[] cap] w (RetIx (idxW p l) w) := by
  have e1 := h.lenEq
  have b1 := h.lenLe
  have HP := Lib.hid hp
  clear hp
  go_enter Tryz.func102, Tryz.ntmps102
  go_wp2
  go_loopw [8] (fun i wr => ∃ k : Nat, k ≤ n ∧ i = .int .i64 k ∧ (l.take k).any p = false ∧ Below w.heap.size w wr) (fun i _ => n - (intOf i).toNat)
  case atStart => exact ⟨0, Nat.zero_le _, rfl, rfl, Below.refl _ _⟩
  case round =>
    obtain ⟨k, hk, rfl, ht0, hb⟩ := hrel
    have ht := Lib.hid ht0
    clear ht0
    by_cases hlt : k < n
    · obtain ⟨b, o, x0, x1, x2, rfl, _, _, hl0, i0, i1, i2, d0, d1, d2⟩ := Row_at (h.below hb hh) hlt
      have hmem : (x0, x1, x2) ∈ l := hl0 ▸ List.getElem_mem (l := l) (n := k) (by omega)
      have hok := Lib.hid (fun (hp : p (x0, x1, x2) = false) => any_take_succ (p := p) ht.out (by omega) (by rw [hl0]; exact hp))
      have hno := Lib.hid (fun (hp : p (x0, x1, x2) = true) => idxW_at (p := p) (l := l) (k := k) (by omega) ht.out (by rw [hl0]; exact hp))
      have HC := Lib.hid (fun W (hW : Below wr.heap.size wr W) => HP.out W x0 x1 x2 hmem (below_then hb hW) i0 i1 i2)
      clear hl0 hmem
      go_wp2_with fail
      refine (HC.out _ (by exact belA)).mono ?_
      rintro e w2 ⟨rfl, hb2⟩
      have hb3 := below_then hb (show Below wr.heap.size wr w2 by exact belA)
      clear HC
      by_cases hpx : p (x0, x1, x2) = true
      · have hs := Lib.hid (hno.out hpx)
        go_wp2_with fail
        go_ret
        exact ⟨rfl_ix hs.out.symm, hb3⟩
      · have hpx : p (x0, x1, x2) = false := by simpa using hpx
        have hs := Lib.hid (hok.out hpx)
        go_wp2_with fail
        go_roundw
        case rel => exact ⟨k + 1, by omega, by go_num, hs.out, hb3⟩
        case measure => simp [intOf]; omega
    · have hs := Lib.hid (idxW_none (p := p) (l := l) (by have := ht.out; rwa [List.take_of_length_le (by omega)] at this))
      go_wp2_with fail
      go_ret
      exact ⟨rfl_ix hs.out.symm, hb⟩
end Go.Proofs.YtgoinmdnpaknpaaGreat

/- Code: how it lies in cells; the laws' own helpers over it. Printed by typegen.py. Walks. -/
set_option linter.unusedVariables false
set_option linter.unusedSimpArgs false
set_option maxRecDepth 100000
namespace Go.Proofs.YtgoinmdnpaknpaaGreat
open Go.RowKit

abbrev Code := Int × Int × List Int × List Ins × List Row
def CodeR : Rp Code := pairR intR (pairR intR (pairR (sliceR 3 intR) (pairR (sliceR 67 InsR) (sliceR 71 RowR))))
def mszCode (x : Code) : Nat := (x.2.2.1).length + (x.2.2.2.1).length + (x.2.2.2.2).length
def mszLCode (l : List Code) : Nat := l.length + (l.map mszCode).sum
theorem mszCode_at {l : List Code} {k : Nat} (hk : k < l.length) : mszCode l[k] ≤ mszLCode l := by have := mem_sum_le (f := mszCode) (List.getElem_mem hk); unfold mszLCode; omega
theorem mszLCode_len (l : List Code) : l.length ≤ mszLCode l := by unfold mszLCode; omega
theorem Code_rel {w : World} {lo hi : Nat} {cs : List Value} {x : Code} (h : CodeR.rel w lo hi cs x) : ∃ x0 x1 A2 n2 c2 s2 A3 n3 c3 s3 A4 n4 c4 s4, cs = ([.int .i64 x0, .int .i64 x1, .slice A2 n2 c2, .slice A3 n3 c3, .slice A4 n4 c4] : List Value) ∧ x = (x0, x1, s2, s3, s4) ∧ I64 x0 ∧ I64 x1 ∧ Sl intR w lo hi A2 n2 c2 s2 ∧ Sl InsR w lo hi A3 n3 c3 s3 ∧ Sl RowR w lo hi A4 n4 c4 s4 := by
  obtain ⟨_, _, rfl, ⟨rfl, i0⟩, _, _, rfl, ⟨rfl, i1⟩, _, _, rfl, ⟨A2, n2, c2, rfl, h2⟩, _, _, rfl, ⟨A3, n3, c3, rfl, h3⟩, ⟨A4, n4, c4, rfl, h4⟩⟩ := h
  exact ⟨x.1, x.2.1, A2, n2, c2, x.2.2.1, A3, n3, c3, x.2.2.2.1, A4, n4, c4, x.2.2.2.2, rfl, rfl, i0, i1, h2, h3, h4⟩
theorem Code_own {w : World} {x0 : Int} {x1 : Int} {A2 : Option Addr} {n2 c2 : Nat} {s2 : List Int} {A3 : Option Addr} {n3 c3 : Nat} {s3 : List Ins} {A4 : Option Addr} {n4 c4 : Nat} {s4 : List Row} {F2 : List Nat} (o2 : OwnSl intR w 3 F2 (.slice A2 n2 c2) s2) {F3 : List Nat} (o3 : OwnSl InsR w 67 F3 (.slice A3 n3 c3) s3) {F4 : List Nat} (o4 : OwnSl RowR w 71 F4 (.slice A4 n4 c4) s4) (i0 : I64 x0) (i1 : I64 x1) (hF : ((F2 ++ (F3 ++ F4))).Nodup) : CodeR.own w ((F2 ++ (F3 ++ F4))) [.int .i64 x0, .int .i64 x1, .slice A2 n2 c2, .slice A3 n3 c3, .slice A4 n4 c4] (x0, x1, s2, s3, s4) := by
  have hF2 := hF; simp only [List.nodup_append] at hF2
  exact ⟨[_], [_, _, _, _], [], (F2 ++ (F3 ++ F4)), rfl, by simp, ⟨rfl, rfl, i0⟩, ⟨[_], [_, _, _], [], (F2 ++ (F3 ++ F4)), rfl, by simp, ⟨rfl, rfl, i1⟩, ⟨[_], [_, _], F2, (F3 ++ F4), rfl, by simp, ⟨A2, n2, c2, rfl, o2⟩, ⟨[_], [_], F3, F4, rfl, by simp, ⟨A3, n3, c3, rfl, o3⟩, ⟨A4, n4, c4, rfl, o4⟩, by simp_all [List.nodup_append]⟩, by simp_all [List.nodup_append]⟩, by simp_all [List.nodup_append]⟩, by simp_all [List.nodup_append]⟩
theorem Code_sl2 {w : World} {F : List Nat} {x0 : Int} {x1 : Int} {A2 : Option Addr} {n2 c2 : Nat} {s2 : List Int} {A3 : Option Addr} {n3 c3 : Nat} {s3 : List Ins} {A4 : Option Addr} {n4 c4 : Nat} {s4 : List Row} (h : CodeR.own w F [.int .i64 x0, .int .i64 x1, .slice A2 n2 c2, .slice A3 n3 c3, .slice A4 n4 c4] (x0, x1, s2, s3, s4)) : Sl intR w 0 w.heap.size A2 n2 c2 s2 := by
  have hr := CodeR.ownRel h (fun k hk => ⟨Nat.zero_le k, CodeR.ownLt h k hk⟩)
  obtain ⟨x0q, x1q, A2q, n2q, c2q, s2q, A3q, n3q, c3q, s3q, A4q, n4q, c4q, s4q, e, hx, i0, i1, h2, h3, h4⟩ := Code_rel hr
  simp only [List.cons.injEq, Value.slice.injEq, Value.int.injEq, Value.bool.injEq, and_true, true_and, Prod.mk.injEq] at e hx
  simp only [e, hx]; exact h2
theorem Code_sl3 {w : World} {F : List Nat} {x0 : Int} {x1 : Int} {A2 : Option Addr} {n2 c2 : Nat} {s2 : List Int} {A3 : Option Addr} {n3 c3 : Nat} {s3 : List Ins} {A4 : Option Addr} {n4 c4 : Nat} {s4 : List Row} (h : CodeR.own w F [.int .i64 x0, .int .i64 x1, .slice A2 n2 c2, .slice A3 n3 c3, .slice A4 n4 c4] (x0, x1, s2, s3, s4)) : Sl InsR w 0 w.heap.size A3 n3 c3 s3 := by
  have hr := CodeR.ownRel h (fun k hk => ⟨Nat.zero_le k, CodeR.ownLt h k hk⟩)
  obtain ⟨x0q, x1q, A2q, n2q, c2q, s2q, A3q, n3q, c3q, s3q, A4q, n4q, c4q, s4q, e, hx, i0, i1, h2, h3, h4⟩ := Code_rel hr
  simp only [List.cons.injEq, Value.slice.injEq, Value.int.injEq, Value.bool.injEq, and_true, true_and, Prod.mk.injEq] at e hx
  simp only [e, hx]; exact h3
theorem Code_sl4 {w : World} {F : List Nat} {x0 : Int} {x1 : Int} {A2 : Option Addr} {n2 c2 : Nat} {s2 : List Int} {A3 : Option Addr} {n3 c3 : Nat} {s3 : List Ins} {A4 : Option Addr} {n4 c4 : Nat} {s4 : List Row} (h : CodeR.own w F [.int .i64 x0, .int .i64 x1, .slice A2 n2 c2, .slice A3 n3 c3, .slice A4 n4 c4] (x0, x1, s2, s3, s4)) : Sl RowR w 0 w.heap.size A4 n4 c4 s4 := by
  have hr := CodeR.ownRel h (fun k hk => ⟨Nat.zero_le k, CodeR.ownLt h k hk⟩)
  obtain ⟨x0q, x1q, A2q, n2q, c2q, s2q, A3q, n3q, c3q, s3q, A4q, n4q, c4q, s4q, e, hx, i0, i1, h2, h3, h4⟩ := Code_rel hr
  simp only [List.cons.injEq, Value.slice.injEq, Value.int.injEq, Value.bool.injEq, and_true, true_and, Prod.mk.injEq] at e hx
  simp only [e, hx]; exact h4
theorem Code_at {w : World} {lo hi : Nat} {A : Option Addr} {n c k : Nat} {l : List Code} (h : Sl CodeR w lo hi A n c l) (hk : k < n) :
    ∃ b off x0 x1 A2 n2 c2 s2 A3 n3 c3 s3 A4 n4 c4 s4, A = some ⟨b, off, none⟩ ∧ lo ≤ b ∧ b < hi ∧ l[k]'(by have := h.1; omega) = (x0, x1, s2, s3, s4) ∧ I64 x0 ∧ I64 x1 ∧ Sl intR w lo hi A2 n2 c2 s2 ∧ Sl InsR w lo hi A3 n3 c3 s3 ∧ Sl RowR w lo hi A4 n4 c4 s4 ∧ w.cell? ⟨b, off + k * 5, none⟩ = some (.int .i64 x0) ∧ w.cell? ⟨b, off + k * 5 + 1, none⟩ = some (.int .i64 x1) ∧ w.cell? ⟨b, off + k * 5 + 2, none⟩ = some (.slice A2 n2 c2) ∧ w.cell? ⟨b, off + k * 5 + 3, none⟩ = some (.slice A3 n3 c3) ∧ w.cell? ⟨b, off + k * 5 + 4, none⟩ = some (.slice A4 n4 c4) := by
  obtain ⟨b, off, cs, rfl, hb1, hb2, hr, hc⟩ := h.at_ hk
  obtain ⟨x0, x1, A2, n2, c2, s2, A3, n3, c3, s3, A4, n4, c4, s4, rfl, hx, i0, i1, h2, h3, h4⟩ := Code_rel hr
  exact ⟨b, off, x0, x1, A2, n2, c2, s2, A3, n3, c3, s3, A4, n4, c4, s4, rfl, hb1, hb2, hx, i0, i1, h2, h3, h4, hc 0 (by simp), hc 1 (by simp), hc 2 (by simp), hc 3 (by simp), hc 4 (by simp)⟩
theorem lawsEqCode (w : World) (lo hi lo' hi' : Nat) (x0 : Int) (x1 : Int) (A2 : Option Addr) (n2 c2 : Nat) (s2 : List Int) (A3 : Option Addr) (n3 c3 : Nat) (s3 : List Ins) (A4 : Option Addr) (n4 c4 : Nat) (s4 : List Row) (x0' : Int) (x1' : Int) (A2' : Option Addr) (n2' c2' : Nat) (s2' : List Int) (A3' : Option Addr) (n3' c3' : Nat) (s3' : List Ins) (A4' : Option Addr) (n4' c4' : Nat) (s4' : List Row) (h2 : Sl intR w lo hi A2 n2 c2 s2) (h3 : Sl InsR w lo hi A3 n3 c3 s3) (h4 : Sl RowR w lo hi A4 n4 c4 s4) (h2' : Sl intR w lo' hi' A2' n2' c2' s2') (h3' : Sl InsR w lo' hi' A3' n3' c3' s3') (h4' : Sl RowR w lo' hi' A4' n4' c4' s4') (hh : hi ≤ w.heap.size) (hh' : hi' ≤ w.heap.size) :
    Calls Tryz.prog 30 #[.agg #[.int .i64 x0, .int .i64 x1, .slice A2 n2 c2, .slice A3 n3 c3, .slice A4 n4 c4], .agg #[.int .i64 x0', .int .i64 x1', .slice A2' n2' c2', .slice A3' n3' c3', .slice A4' n4' c4']] w (RetB (eqB (x0, x1, s2, s3, s4) (x0', x1', s2', s3', s4')) w) := by
  go_enter Tryz.func30, Tryz.ntmps30
  go_wp2_with fail
  all_goals try (go_ret; exact RetB.mk (by simp_all [eqB]) (by exact belA))
  refine (lawsEqIntS _ lo hi lo' hi' n2 n2' c2 c2' A2 A2' s2 s2' (h2.below (B := w.heap.size) (by exact belA) hh) (h2'.below (B := w.heap.size) (by exact belA) hh') (by first | omega | (simp; omega)) (by first | omega | (simp; omega))).mono ?_
  rintro e w2 ⟨rfl, b2⟩
  obtain ⟨hc2, hf2⟩ := bcell b2
  have hz2 := b2.size
  try simp at hz2
  have hv2 : w.heap.size < w2.heap.size := by omega
  have hx2 : w.heap.size + 1 < w2.heap.size := by omega
  go_wp2_with fail
  all_goals try (go_ret; exact RetB.mk (by simp_all [eqB]) (by exact belA))
  refine (lawsEqInsS _ lo hi lo' hi' n3 n3' c3 c3' A3 A3' s3 s3' (h3.below (B := w.heap.size) (by exact belA) hh) (h3'.below (B := w.heap.size) (by exact belA) hh') (by first | omega | (simp; omega)) (by first | omega | (simp; omega))).mono ?_
  rintro e w3 ⟨rfl, b3⟩
  obtain ⟨hc3, hf3⟩ := bcell b3
  have hz3 := b3.size
  try simp at hz3
  have hv3 : w.heap.size < w3.heap.size := by omega
  have hx3 : w.heap.size + 1 < w3.heap.size := by omega
  go_wp2_with fail
  all_goals try (go_ret; exact RetB.mk (by simp_all [eqB]) (by exact belA))
  refine (lawsEqRowS _ lo hi lo' hi' n4 n4' c4 c4' A4 A4' s4 s4' (h4.below (B := w.heap.size) (by exact belA) hh) (h4'.below (B := w.heap.size) (by exact belA) hh') (by first | omega | (simp; omega)) (by first | omega | (simp; omega))).mono ?_
  rintro e w4 ⟨rfl, b4⟩
  obtain ⟨hc4, hf4⟩ := bcell b4
  have hz4 := b4.size
  try simp at hz4
  have hv4 : w.heap.size < w4.heap.size := by omega
  have hx4 : w.heap.size + 1 < w4.heap.size := by omega
  go_wp2_with fail
  all_goals (go_ret; exact RetB.mk (by simp_all [eqB]) (by exact belA))
theorem lawsEqCodeS (w : World) (lo hi lo' hi' n n' c c' : Nat) (A A' : Option Addr) (l l' : List Code) (h : Sl CodeR w lo hi A n c l) (h' : Sl CodeR w lo' hi' A' n' c' l') (hh : hi ≤ w.heap.size) (hh' : hi' ≤ w.heap.size) :
    Calls Tryz.prog 16 #[.slice A n c, .slice A' n' c'] w (RetB (eqB l l') w) := by
  have e1 := h.lenEq
  have e2 := h'.lenEq
  have b1 := h.lenLe
  have b2 := h'.lenLe
  by_cases hn : n = n'
  · subst hn
    have hn' : ((n : Int) != (n : Int)) = false := by simp
    go_enter Tryz.func16, Tryz.ntmps16
    go_wp2
    go_loopw [5] (fun i wr => ∃ k : Nat, k ≤ n ∧ i = .int .i64 k ∧ l.take k = l'.take k ∧ Below w.heap.size w wr) (fun i _ => n - (intOf i).toNat)
    case atStart => exact ⟨0, Nat.zero_le _, rfl, rfl, Below.refl _ _⟩
    case round =>
      obtain ⟨k, hk, rfl, ht0, hb⟩ := hrel
      have ht := Lib.hid ht0
      clear ht0
      have hbs := hb.size
      by_cases hlt : k < n
      · obtain ⟨b, o, x0, x1, A2, n2, c2, s2, A3, n3, c3, s3, A4, n4, c4, s4, rfl, _, _, hl0, i0, i1, h2, h3, h4, d0, d1, d2, d3, d4⟩ := Code_at (h.below hb hh) hlt
        obtain ⟨b', o', x0', x1', A2', n2', c2', s2', A3', n3', c3', s3', A4', n4', c4', s4', rfl, _, _, hl0', i0', i1', h2', h3', h4', d0', d1', d2', d3', d4'⟩ := Code_at (h'.below hb hh') hlt
        have hl := Lib.hid hl0
        have hl' := Lib.hid hl0'
        clear hl0 hl0'
        have hst := Lib.hid (fun (he : l[k]'(by omega) = l'[k]'(by omega)) => take_eq_snoc ht.out (by omega) (by omega) he)
        have hne := Lib.hid (fun (he : ¬ l[k]'(by omega) = l'[k]'(by omega)) => ne_of_at (by omega) (by omega) he)
        by_cases he0 : (x0, x1, s2, s3, s4) = (x0', x1', s2', s3', s4')
        · have hd := eqB_true he0
          have hs := Lib.hid (hst.out (by rw [hl.out, hl'.out, he0]))
          clear he0
          go_wp2_with fail
          go_region_held3 (fun w' => w'.cell? ⟨b, o + k * 5, none⟩ = some (.int .i64 x0) ∧ w'.cell? ⟨b, o + k * 5 + 1, none⟩ = some (.int .i64 x1) ∧ w'.cell? ⟨b, o + k * 5 + 2, none⟩ = some (.slice A2 n2 c2) ∧ w'.cell? ⟨b, o + k * 5 + 3, none⟩ = some (.slice A3 n3 c3) ∧ w'.cell? ⟨b, o + k * 5 + 4, none⟩ = some (.slice A4 n4 c4) ∧ w'.cell? ⟨b', o' + k * 5, none⟩ = some (.int .i64 x0') ∧ w'.cell? ⟨b', o' + k * 5 + 1, none⟩ = some (.int .i64 x1') ∧ w'.cell? ⟨b', o' + k * 5 + 2, none⟩ = some (.slice A2' n2' c2') ∧ w'.cell? ⟨b', o' + k * 5 + 3, none⟩ = some (.slice A3' n3' c3') ∧ w'.cell? ⟨b', o' + k * 5 + 4, none⟩ = some (.slice A4' n4' c4')) (first | exact ⟨d0, d1, d2, d3, d4, d0', d1', d2', d3', d4'⟩ | exact ⟨below_cell hb2 d0, below_cell hb2 d1, below_cell hb2 d2, below_cell hb2 d3, below_cell hb2 d4, below_cell hb2 d0', below_cell hb2 d1', below_cell hb2 d2', below_cell hb2 d3', below_cell hb2 d4'⟩)
            (first | (go_at_call 30; refine (lawsEqCode _ lo hi lo' hi' x0 x1 A2 n2 c2 s2 A3 n3 c3 s3 A4 n4 c4 s4 x0' x1' A2' n2' c2' s2' A3' n3' c3' s3' A4' n4' c4' s4' h2.drew h3.drew h4.drew h2'.drew h3'.drew h4'.drew (by first | omega | (simp; omega)) (by first | omega | (simp; omega))).mono ?_; rintro e w2 ⟨rfl, hb2⟩))
          have hb3 := below_then hb.drew hb2
          go_wp2_with fail
          go_roundw
          case rel => exact ⟨k + 1, by omega, by go_num, hs.out, hb3⟩
          case measure => simp [intOf]; omega
        · have hd := eqB_false he0
          have hs := Lib.hid (eqB_false (hne.out (by rw [hl.out, hl'.out]; exact he0)))
          clear he0
          go_wp2_with fail
          go_region_held3 (fun w' => w'.cell? ⟨b, o + k * 5, none⟩ = some (.int .i64 x0) ∧ w'.cell? ⟨b, o + k * 5 + 1, none⟩ = some (.int .i64 x1) ∧ w'.cell? ⟨b, o + k * 5 + 2, none⟩ = some (.slice A2 n2 c2) ∧ w'.cell? ⟨b, o + k * 5 + 3, none⟩ = some (.slice A3 n3 c3) ∧ w'.cell? ⟨b, o + k * 5 + 4, none⟩ = some (.slice A4 n4 c4) ∧ w'.cell? ⟨b', o' + k * 5, none⟩ = some (.int .i64 x0') ∧ w'.cell? ⟨b', o' + k * 5 + 1, none⟩ = some (.int .i64 x1') ∧ w'.cell? ⟨b', o' + k * 5 + 2, none⟩ = some (.slice A2' n2' c2') ∧ w'.cell? ⟨b', o' + k * 5 + 3, none⟩ = some (.slice A3' n3' c3') ∧ w'.cell? ⟨b', o' + k * 5 + 4, none⟩ = some (.slice A4' n4' c4')) (first | exact ⟨d0, d1, d2, d3, d4, d0', d1', d2', d3', d4'⟩ | exact ⟨below_cell hb2 d0, below_cell hb2 d1, below_cell hb2 d2, below_cell hb2 d3, below_cell hb2 d4, below_cell hb2 d0', below_cell hb2 d1', below_cell hb2 d2', below_cell hb2 d3', below_cell hb2 d4'⟩)
            (first | (go_at_call 30; refine (lawsEqCode _ lo hi lo' hi' x0 x1 A2 n2 c2 s2 A3 n3 c3 s3 A4 n4 c4 s4 x0' x1' A2' n2' c2' s2' A3' n3' c3' s3' A4' n4' c4' s4' h2.drew h3.drew h4.drew h2'.drew h3'.drew h4'.drew (by first | omega | (simp; omega)) (by first | omega | (simp; omega))).mono ?_; rintro e w2 ⟨rfl, hb2⟩))
          have hb3 := below_then hb.drew hb2
          go_wp2_with fail
          go_ret
          exact RetB.mk hs.out.symm hb3
      · go_wp2_with fail
        go_ret
        exact RetB.mk (eqB_true (eq_of_takes ht.out (by omega) (by omega))).symm hb
  · have hn' : ((n : Int) != (n' : Int)) = true := by simp; omega
    have hd := Lib.hid (eqB_false (x := l) (y := l') (by rintro rfl; omega))
    go_enter Tryz.func16, Tryz.ntmps16
    go_wp2
    go_ret
    exact RetB.mk hd.out.symm (Below.refl _ _)
end Go.Proofs.YtgoinmdnpaknpaaGreat

/- slices.IndexFunc, slices.ContainsFunc over slices of Code. Printed by anygen.py. Walks. -/
set_option linter.unusedVariables false
set_option linter.unusedSimpArgs false
set_option maxRecDepth 100000
namespace Go.Proofs.YtgoinmdnpaknpaaGreat
open Go.RowKit

theorem idxFuncCode (g : FuncId) (cap : Array Value) (p : Code → Bool) (w : World) (lo hi n c : Nat) (A : Option Addr) (l : List Code) (h : Sl CodeR w lo hi A n c l) (hh : hi ≤ w.heap.size)
    (eg : ∀ (args : Array Value) (w : World), (callFunc g args).run Tryz.prog w = .ok (.enter g args) w)
    (hp : ∀ (W : World) (x0 : Int) (x1 : Int) (A2 : Option Addr) (n2 c2 : Nat) (s2 : List Int) (A3 : Option Addr) (n3 c3 : Nat) (s3 : List Ins) (A4 : Option Addr) (n4 c4 : Nat) (s4 : List Row), (x0, x1, s2, s3, s4) ∈ l → Below w.heap.size w W → I64 x0 → I64 x1 → Sl intR W lo hi A2 n2 c2 s2 → Sl InsR W lo hi A3 n3 c3 s3 → Sl RowR W lo hi A4 n4 c4 s4 → Calls Tryz.prog g (#[.agg #[.int .i64 x0, .int .i64 x1, .slice A2 n2 c2, .slice A3 n3 c3, .slice A4 n4 c4]] ++ cap) W (RetB (p (x0, x1, s2, s3, s4)) W)) :
    Calls Tryz.prog 92 #[.slice A n c, .func (.func g) #[] cap] w (RetIx (idxW p l) w) := by
  have e1 := h.lenEq
  have b1 := h.lenLe
  have HP := Lib.hid hp
  clear hp
  go_enter Tryz.func92, Tryz.ntmps92
  go_wp2
  go_loopw [8] (fun i wr => ∃ k : Nat, k ≤ n ∧ i = .int .i64 k ∧ (l.take k).any p = false ∧ Below w.heap.size w wr) (fun i _ => n - (intOf i).toNat)
  case atStart => exact ⟨0, Nat.zero_le _, rfl, rfl, Below.refl _ _⟩
  case round =>
    obtain ⟨k, hk, rfl, ht0, hb⟩ := hrel
    have ht := Lib.hid ht0
    clear ht0
    by_cases hlt : k < n
    · obtain ⟨b, o, x0, x1, A2, n2, c2, s2, A3, n3, c3, s3, A4, n4, c4, s4, rfl, _, _, hl0, i0, i1, h2, h3, h4, d0, d1, d2, d3, d4⟩ := Code_at (h.below hb hh) hlt
      have hmem : (x0, x1, s2, s3, s4) ∈ l := hl0 ▸ List.getElem_mem (l := l) (n := k) (by omega)
      have hok := Lib.hid (fun (hp : p (x0, x1, s2, s3, s4) = false) => any_take_succ (p := p) ht.out (by omega) (by rw [hl0]; exact hp))
      have hno := Lib.hid (fun (hp : p (x0, x1, s2, s3, s4) = true) => idxW_at (p := p) (l := l) (k := k) (by omega) ht.out (by rw [hl0]; exact hp))
      have HC := Lib.hid (fun W (hW : Below wr.heap.size wr W) => HP.out W x0 x1 A2 n2 c2 s2 A3 n3 c3 s3 A4 n4 c4 s4 hmem (below_then hb hW) i0 i1 (h2.below hW (by have := hb.size; omega)) (h3.below hW (by have := hb.size; omega)) (h4.below hW (by have := hb.size; omega)))
      clear hl0 hmem
      go_wp2_with fail
      refine (HC.out _ (by exact belA)).mono ?_
      rintro e w2 ⟨rfl, hb2⟩
      have hb3 := below_then hb (show Below wr.heap.size wr w2 by exact belA)
      clear HC
      by_cases hpx : p (x0, x1, s2, s3, s4) = true
      · have hs := Lib.hid (hno.out hpx)
        go_wp2_with fail
        go_ret
        exact ⟨rfl_ix hs.out.symm, hb3⟩
      · have hpx : p (x0, x1, s2, s3, s4) = false := by simpa using hpx
        have hs := Lib.hid (hok.out hpx)
        go_wp2_with fail
        go_roundw
        case rel => exact ⟨k + 1, by omega, by go_num, hs.out, hb3⟩
        case measure => simp [intOf]; omega
    · have hs := Lib.hid (idxW_none (p := p) (l := l) (by have := ht.out; rwa [List.take_of_length_le (by omega)] at this))
      go_wp2_with fail
      go_ret
      exact ⟨rfl_ix hs.out.symm, hb⟩
theorem conFuncCode (g : FuncId) (cap : Array Value) (p : Code → Bool) (w : World) (lo hi n c : Nat) (A : Option Addr) (l : List Code) (h : Sl CodeR w lo hi A n c l) (hh : hi ≤ w.heap.size)
    (eg : ∀ (args : Array Value) (w : World), (callFunc g args).run Tryz.prog w = .ok (.enter g args) w)
    (hp : ∀ (W : World) (x0 : Int) (x1 : Int) (A2 : Option Addr) (n2 c2 : Nat) (s2 : List Int) (A3 : Option Addr) (n3 c3 : Nat) (s3 : List Ins) (A4 : Option Addr) (n4 c4 : Nat) (s4 : List Row), (x0, x1, s2, s3, s4) ∈ l → Below w.heap.size w W → I64 x0 → I64 x1 → Sl intR W lo hi A2 n2 c2 s2 → Sl InsR W lo hi A3 n3 c3 s3 → Sl RowR W lo hi A4 n4 c4 s4 → Calls Tryz.prog g (#[.agg #[.int .i64 x0, .int .i64 x1, .slice A2 n2 c2, .slice A3 n3 c3, .slice A4 n4 c4]] ++ cap) W (RetB (p (x0, x1, s2, s3, s4)) W)) :
    Calls Tryz.prog 66 #[.slice A n c, .func (.func g) #[] cap] w (RetB (l.any p) w) := by
  have HP := Lib.hid hp
  have EG := Lib.hid eg
  have e1 := h.lenEq
  have b1 := h.lenLe
  clear hp eg
  have hq := Lib.hid (idxW_any p l)
  obtain ⟨v, hv0⟩ : ∃ v, v = idxW p l := ⟨_, rfl⟩
  have hv := Lib.hid hv0
  clear hv0
  go_enter Tryz.func66, Tryz.ntmps66
  go_wp2_with fail
  refine (idxFuncCode g cap p _ lo hi n c A l h hh EG.out HP.out).mono ?_
  rintro e w2 ⟨rfl, hb⟩
  rw [← hv.out]
  go_wp2_with fail
  go_ret
  exact RetB.mk (by rw [← hq.out, ← hv.out]) hb
end Go.Proofs.YtgoinmdnpaknpaaGreat

/- Image: how it lies in cells; the laws' own helpers over it. Printed by typegen.py. Walks. -/
set_option linter.unusedVariables false
set_option linter.unusedSimpArgs false
set_option maxRecDepth 100000
namespace Go.Proofs.YtgoinmdnpaknpaaGreat
open Go.RowKit

abbrev Image := List Code
def ImageR : Rp Image := sliceR 39 CodeR
def mszImage (x : Image) : Nat := mszLCode x
def mszLImage (l : List Image) : Nat := l.length + (l.map mszImage).sum
theorem mszImage_at {l : List Image} {k : Nat} (hk : k < l.length) : mszImage l[k] ≤ mszLImage l := by have := mem_sum_le (f := mszImage) (List.getElem_mem hk); unfold mszLImage; omega
theorem mszLImage_len (l : List Image) : l.length ≤ mszLImage l := by unfold mszLImage; omega
theorem Image_rel {w : World} {lo hi : Nat} {cs : List Value} {x : Image} (h : ImageR.rel w lo hi cs x) : ∃ A0 n0 c0 s0, cs = ([.slice A0 n0 c0] : List Value) ∧ x = s0 ∧ Sl CodeR w lo hi A0 n0 c0 s0 := by
  obtain ⟨A0, n0, c0, rfl, h0⟩ := h
  exact ⟨A0, n0, c0, x, rfl, rfl, h0⟩
theorem Image_own {w : World} {A0 : Option Addr} {n0 c0 : Nat} {s0 : List Code} {F0 : List Nat} (o0 : OwnSl CodeR w 39 F0 (.slice A0 n0 c0) s0)  (hF : (F0).Nodup) : ImageR.own w (F0) [.slice A0 n0 c0] s0 := by
  exact ⟨A0, n0, c0, rfl, o0⟩
theorem Image_sl0 {w : World} {F : List Nat} {A0 : Option Addr} {n0 c0 : Nat} {s0 : List Code} (h : ImageR.own w F [.slice A0 n0 c0] s0) : Sl CodeR w 0 w.heap.size A0 n0 c0 s0 := by
  have hr := ImageR.ownRel h (fun k hk => ⟨Nat.zero_le k, ImageR.ownLt h k hk⟩)
  obtain ⟨A0q, n0q, c0q, s0q, e, hx, h0⟩ := Image_rel hr
  simp only [List.cons.injEq, Value.slice.injEq, Value.int.injEq, Value.bool.injEq, and_true, true_and] at e hx
  simp only [e, hx]; exact h0
theorem Image_at {w : World} {lo hi : Nat} {A : Option Addr} {n c k : Nat} {l : List Image} (h : Sl ImageR w lo hi A n c l) (hk : k < n) :
    ∃ b off A0 n0 c0 s0, A = some ⟨b, off, none⟩ ∧ lo ≤ b ∧ b < hi ∧ l[k]'(by have := h.1; omega) = s0 ∧ Sl CodeR w lo hi A0 n0 c0 s0 ∧ w.cell? ⟨b, off + k, none⟩ = some (.slice A0 n0 c0) := by
  obtain ⟨b, off, cs, rfl, hb1, hb2, hr, hc⟩ := h.at_ hk
  obtain ⟨A0, n0, c0, s0, rfl, hx, h0⟩ := Image_rel hr
  have h0c := hc 0 (by simp)
  simp only [show ImageR.size = 1 from rfl, Nat.mul_one, Nat.add_zero] at h0c
  exact ⟨b, off, A0, n0, c0, s0, rfl, hb1, hb2, hx, h0, h0c⟩
theorem lawsEqImage (w : World) (lo hi lo' hi' : Nat) (A0 : Option Addr) (n0 c0 : Nat) (s0 : List Code) (A0' : Option Addr) (n0' c0' : Nat) (s0' : List Code) (h0 : Sl CodeR w lo hi A0 n0 c0 s0) (h0' : Sl CodeR w lo' hi' A0' n0' c0' s0') (hh : hi ≤ w.heap.size) (hh' : hi' ≤ w.heap.size) :
    Calls Tryz.prog 6 #[.agg #[.slice A0 n0 c0], .agg #[.slice A0' n0' c0']] w (RetB (eqB s0 s0') w) := by
  go_enter Tryz.func6, Tryz.ntmps6
  go_wp2_with fail
  all_goals try (go_ret; exact RetB.mk (by simp_all [eqB]) (by exact belA))
  refine (lawsEqCodeS _ lo hi lo' hi' n0 n0' c0 c0' A0 A0' s0 s0' (h0.below (B := w.heap.size) (by exact belA) hh) (h0'.below (B := w.heap.size) (by exact belA) hh') (by first | omega | (simp; omega)) (by first | omega | (simp; omega))).mono ?_
  rintro e w0 ⟨rfl, b0⟩
  obtain ⟨hc0, hf0⟩ := bcell b0
  have hz0 := b0.size
  try simp at hz0
  have hv0 : w.heap.size < w0.heap.size := by omega
  have hx0 : w.heap.size + 1 < w0.heap.size := by omega
  go_wp2_with fail
  all_goals (go_ret; exact RetB.mk (by simp_all [eqB]) (by exact belA))
end Go.Proofs.YtgoinmdnpaknpaaGreat
