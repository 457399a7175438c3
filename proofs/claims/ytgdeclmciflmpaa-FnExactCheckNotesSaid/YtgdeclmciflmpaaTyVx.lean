/- Several texts in one: Notes, AnyNote, TyFrame, AnyFrame, TyVm. -/
import Derived.Test.YtgdeclmciflmpaaKit1
import Derived.Deep.RegionHeld3

/- Notes: the laws' helpers over lists of notes. Walks. -/
set_option linter.unusedVariables false
set_option linter.unusedSimpArgs false
namespace Go.Proofs.Ytgdeclmciflmpaa
open Go.RowKit

abbrev Note := Int × Int × Int
def noteR : Rp Note := pairR intR (pairR intR intR)

theorem lawsEqNote (w : World) (a b c a' b' c' : Int) :
    Calls Try.prog 48 #[.agg #[.int .i64 a, .int .i64 b, .int .i64 c], .agg #[.int .i64 a', .int .i64 b', .int .i64 c']] w (RetB (eqB (a, b, c) (a', b', c')) w) := by
  go_enter Try.func48, Try.ntmps48
  go_wp2
  all_goals (go_ret; exact RetB.mk (by simp_all [eqB]) (by exact belA))

theorem Sl.note_at {w : World} {lo hi : Nat} {A : Option Addr} {n c k : Nat} {l : List Note} (h : Sl noteR w lo hi A n c l) (hk : k < n) :
    ∃ b off x y z, A = some ⟨b, off, none⟩ ∧ lo ≤ b ∧ b < hi ∧ l[k]'(by have := h.1; omega) = (x, y, z) ∧ I64 x ∧ I64 y ∧ I64 z ∧
      w.cell? ⟨b, off + k * 3, none⟩ = some (.int .i64 x) ∧ w.cell? ⟨b, off + k * 3 + 1, none⟩ = some (.int .i64 y) ∧
      w.cell? ⟨b, off + k * 3 + 2, none⟩ = some (.int .i64 z) := by
  obtain ⟨b, off, cs, rfl, h1, h2, hr, hc⟩ := h.at_ hk
  obtain ⟨_, _, rfl, ⟨rfl, i1⟩, _, _, rfl, ⟨rfl, i2⟩, ⟨rfl, i3⟩⟩ := hr
  exact ⟨b, off, _, _, _, rfl, h1, h2, rfl, i1, i2, i3, hc 0 (by simp), hc 1 (by simp), hc 2 (by simp)⟩

theorem noteOwn (w : World) (x y z : Int) (i1 : I64 x) (i2 : I64 y) (i3 : I64 z) : noteR.own w [] [.int .i64 x, .int .i64 y, .int .i64 z] (x, y, z) :=
  ⟨[_], [_, _], [], [], rfl, rfl, ⟨rfl, rfl, i1⟩, ⟨[_], [_], [], [], rfl, rfl, ⟨rfl, rfl, i2⟩, ⟨rfl, rfl, i3⟩, by simp⟩, by simp⟩
theorem Note_own (w : World) (x0 x1 x2 : Int) (i0 : I64 x0) (i1 : I64 x1) (i2 : I64 x2) : noteR.own w [] [.int .i64 x0, .int .i64 x1, .int .i64 x2] (x0, x1, x2) := noteOwn w x0 x1 x2 i0 i1 i2
theorem lawsToNote (w : World) (a b c : Int) :
    Calls Try.prog 45 #[.agg #[.int .i64 a, .int .i64 b, .int .i64 c]] w fun e w' => e = .returned (.agg #[.int .i64 a, .int .i64 b, .int .i64 c]) ∧ Below w.heap.size w w' := by
  go_enter Try.func45, Try.ntmps45
  go_wp2
  refine bodyPost_ret (v := .agg #[.int .i64 a, .int .i64 b, .int .i64 c]) (by simp [results, Try.results45, go_sem]) rfl ⟨rfl, by exact belA⟩

theorem Try.infoNote : (Try.prog.info? 80).map (fun i => (i.zero, i.size, i.bytes)) = some (some (.agg #[.int .i64 0, .int .i64 0, .int .i64 0]), 3, 24) := by kernel_rfl
theorem lawsToNoteS (w : World) (lo hi n c : Nat) (A : Option Addr) (l : List Note) (h : Sl noteR w lo hi A n c l) (hh : hi ≤ w.heap.size) (hn : n ≤ 1048576) :
    Calls Try.prog 11 #[.slice A n c] w (RetOwn noteR 80 l w) := by
  have e1 := h.lenEq
  obtain ⟨i0, hi0, hz0, hz1, hz2⟩ := info_parts Try.infoNote
  go_enter Try.func11, Try.ntmps11
  go_wp2_with (at_make; refine wpList_make_full _ rfl _ _ 26 rfl 0 80 i0 (.agg #[.int .i64 0, .int .i64 0, .int .i64 0]) 3 Try.underlying26 hi0 hz0 hz1 _ _ _ _ n rfl rfl rfl rfl (by rw [hz2]; omega) (by unfold maxLen; omega) (Nat.zero_le _) ?_)
  intro w1 hown hg
  have hF := Fill.start (R := noteR) hown
  have hb0 : Below w.heap.size w w1 := (Below.refl _ _).grown hg (Nat.le_refl _) (fun k hk => by cases hk)
  go_wp2
  go_loopw [4] (fun i wr => ∃ k : Nat, k ≤ n ∧ i = .int .i64 k ∧ Fill noteR wr 80 [w.heap.size] w.heap.size n (l.take k) ∧ Below w.heap.size w wr) (fun i _ => n - (intOf i).toNat)
  case atStart => exact ⟨0, Nat.zero_le _, rfl, hF, hb0⟩
  case round =>
    obtain ⟨k, hk, rfl, hF, hb⟩ := hrel
    by_cases hlt : k < n
    · obtain ⟨b, o, x, y, z, rfl, _, _, hl, i1, i2, i3, hc1, hc2, hc3⟩ := (h.below hb hh).note_at hlt
      have hl := Lib.hid hl
      go_wp2_with fail
      refine (lawsToNote _ x y z).mono ?_
      rintro e w2 ⟨rfl, hb2⟩
      have hF2 := hF.below hb2
      have hlk : (l.take k).length = k := by simp; omega
      obtain ⟨u0, hu0⟩ : ∃ u, w2.cell? ⟨w.heap.size, k * 3, none⟩ = some u := hF2.cell' hlk hlt (j := 0) (by decide)
      obtain ⟨u1, hu1⟩ : ∃ u, w2.cell? ⟨w.heap.size, k * 3 + 1, none⟩ = some u := hF2.cell' hlk hlt (j := 1) (by decide)
      obtain ⟨u2, hu2⟩ : ∃ u, w2.cell? ⟨w.heap.size, k * 3 + 2, none⟩ = some u := hF2.cell' hlk hlt (j := 2) (by decide)
      have f0 := hF2.frozen (k * 3)
      have f1 := hF2.frozen (k * 3 + 1)
      have f2 := hF2.frozen (k * 3 + 2)
      have hst := hF2.step' (Fx := []) (cs := [.int .i64 x, .int .i64 y, .int .i64 z]) e1 hlt (by rw [hl.out]; exact noteOwn _ _ _ _ i1 i2 i3) (by simp)
      have hb3 := below_setCells w.heap.size (Nat.le_refl _) [.int .i64 x, .int .i64 y, .int .i64 z] (k * 3) w2 (below_then hb hb2)
      clear hlk
      go_wp2
      go_roundw
      case rel => exact ⟨k + 1, by omega, by go_num, hst, hb3⟩
      case measure => simp [intOf]; omega
    · go_wp2
      go_ret
      exact RetOwn.mk rfl (hF.all e1 (by omega)) (by simp) hb
theorem lawsEqNoteS (w : World) (lo hi lo' hi' n n' c c' : Nat) (A A' : Option Addr) (l l' : List Note) (h : Sl noteR w lo hi A n c l) (h' : Sl noteR w lo' hi' A' n' c' l') (hh : hi ≤ w.heap.size) (hh' : hi' ≤ w.heap.size) :
    Calls Try.prog 13 #[.slice A n c, .slice A' n' c'] w (RetB (eqB l l') w) := by
  have e1 := h.lenEq
  have e2 := h'.lenEq
  have b1 := h.lenLe
  have b2 := h'.lenLe
  by_cases hn : n = n'
  · subst hn
    have hn' : ((n : Int) != (n : Int)) = false := by simp
    go_enter Try.func13, Try.ntmps13
    go_wp2
    go_loopw [5] (fun i wr => ∃ k : Nat, k ≤ n ∧ i = .int .i64 k ∧ l.take k = l'.take k ∧ Below w.heap.size w wr) (fun i _ => n - (intOf i).toNat)
    case atStart => exact ⟨0, Nat.zero_le _, rfl, rfl, Below.refl _ _⟩
    case round =>
      obtain ⟨k, hk, rfl, ht0, hb⟩ := hrel
      have ht := Lib.hid ht0
      clear ht0
      by_cases hlt : k < n
      · obtain ⟨b, o, x, y, z, rfl, _, _, hl0, _, _, _, hc1, hc2, hc3⟩ := (h.below hb hh).note_at hlt
        obtain ⟨b', o', x', y', z', rfl, _, _, hl0', _, _, _, hc1', hc2', hc3'⟩ := (h'.below hb hh').note_at hlt
        have hl := Lib.hid hl0
        have hl' := Lib.hid hl0'
        clear hl0 hl0'
        have hst := Lib.hid (fun (he : l[k]'(by omega) = l'[k]'(by omega)) => take_eq_snoc ht.out (by omega) (by omega) he)
        have hne := Lib.hid (fun (he : ¬ l[k]'(by omega) = l'[k]'(by omega)) => ne_of_at (by omega) (by omega) he)
        by_cases he0 : (x, y, z) = (x', y', z')
        · have hd := eqB_true he0
          have hs := Lib.hid (hst.out (by rw [hl.out, hl'.out, he0]))
          clear he0
          go_wp2_with fail
          go_region_held3 (fun w' => w'.cell? ⟨b, o + k * 3, none⟩ = some (.int .i64 x) ∧ w'.cell? ⟨b, o + k * 3 + 1, none⟩ = some (.int .i64 y) ∧ w'.cell? ⟨b, o + k * 3 + 2, none⟩ = some (.int .i64 z) ∧ w'.cell? ⟨b', o' + k * 3, none⟩ = some (.int .i64 x') ∧ w'.cell? ⟨b', o' + k * 3 + 1, none⟩ = some (.int .i64 y') ∧ w'.cell? ⟨b', o' + k * 3 + 2, none⟩ = some (.int .i64 z')) (first | exact ⟨hc1, hc2, hc3, hc1', hc2', hc3'⟩ | exact ⟨below_cell hb2 hc1, below_cell hb2 hc2, below_cell hb2 hc3, below_cell hb2 hc1', below_cell hb2 hc2', below_cell hb2 hc3'⟩)
            (first | (go_at_call 48; refine (lawsEqNote _ x y z x' y' z').mono ?_; rintro e w2 ⟨rfl, hb2⟩))
          have hb3 := below_then hb.drew hb2
          go_wp2_with fail
          go_roundw
          case rel => exact ⟨k + 1, by omega, by go_num, hs.out, hb3⟩
          case measure => simp [intOf]; omega
        · have hd := eqB_false he0
          have hs := Lib.hid (eqB_false (hne.out (by rw [hl.out, hl'.out]; exact he0)))
          clear he0
          go_wp2_with fail
          go_region_held3 (fun w' => w'.cell? ⟨b, o + k * 3, none⟩ = some (.int .i64 x) ∧ w'.cell? ⟨b, o + k * 3 + 1, none⟩ = some (.int .i64 y) ∧ w'.cell? ⟨b, o + k * 3 + 2, none⟩ = some (.int .i64 z) ∧ w'.cell? ⟨b', o' + k * 3, none⟩ = some (.int .i64 x') ∧ w'.cell? ⟨b', o' + k * 3 + 1, none⟩ = some (.int .i64 y') ∧ w'.cell? ⟨b', o' + k * 3 + 2, none⟩ = some (.int .i64 z')) (first | exact ⟨hc1, hc2, hc3, hc1', hc2', hc3'⟩ | exact ⟨below_cell hb2 hc1, below_cell hb2 hc2, below_cell hb2 hc3, below_cell hb2 hc1', below_cell hb2 hc2', below_cell hb2 hc3'⟩)
            (first | (go_at_call 48; refine (lawsEqNote _ x y z x' y' z').mono ?_; rintro e w2 ⟨rfl, hb2⟩))
          have hb3 := below_then hb.drew hb2
          go_wp2_with fail
          go_ret
          exact RetB.mk hs.out.symm hb3
      · go_wp2_with fail
        go_ret
        exact RetB.mk (eqB_true (eq_of_takes ht.out (by omega) (by omega))).symm hb
  · have hn' : ((n : Int) != (n' : Int)) = true := by simp; omega
    have hd := Lib.hid (eqB_false (x := l) (y := l') (by rintro rfl; omega))
    go_enter Try.func13, Try.ntmps13
    go_wp2
    go_ret
    exact RetB.mk hd.out.symm (Below.refl _ _)
theorem lawsMarkNoteS (w : World) (n c : Nat) (A : Option Addr) (xs : List Value) (k : Int) (F : List Nat) (h : w.ownsRow 0 80 3 (.slice A n c) n xs) (hF : ∀ g, A = some ⟨g, 0, none⟩ → g ∈ F) (h1 : 0 ≤ k) (h2 : k ≤ 1152921504606846976) (hn : n ≤ 1152921504606846976) :
    Calls Try.prog 22 #[.slice A n c, .int .i64 k] w (RetMark 80 3 n (.slice A n c) k F w) := by
  have hl := h.1
  go_enter Try.func22, Try.ntmps22
  go_wp2
  go_loopw [1, 5] (fun kk i wr => ∃ j : Nat, j ≤ n ∧ i = .int .i64 j ∧ kk = .int .i64 (k + ((j * 3 : Nat) : Int)) ∧ wr.ownsRow 0 80 3 (.slice A n c) n (mk k (j * 3) ++ xs.drop (j * 3)) ∧ Fr F w wr) (fun _ i _ => n - (intOf i).toNat)
  case atStart => exact ⟨0, Nat.zero_le _, rfl, by simp, by simpa [mk] using h, Fr.refl _ _⟩
  case round =>
    obtain ⟨j, hj, rfl, rfl, ho, hb⟩ := hrel
    by_cases hlt : j < n
    · obtain ⟨_, ⟨rfl, h0, _⟩ | ⟨g, rfl, _⟩⟩ := ownsRow_cases ho
      · omega
      obtain ⟨u0, hu0⟩ := own_cell ho (j := j * 3) (by omega)
      obtain ⟨u1, hu1⟩ := own_cell ho (j := j * 3 + 1) (by omega)
      obtain ⟨u2, hu2⟩ := own_cell ho (j := j * 3 + 2) (by omega)
      have f0 := ho.frozenAt (j * 3)
      have f1 := ho.frozenAt (j * 3 + 1)
      have f2 := ho.frozenAt (j * 3 + 2)
      have hst := mark_row ho (mk_add3 k (j * 3)) rfl (by omega)
      have hsb := Fr.setCells g (hF g rfl) [.int .i64 (k + ((j * 3 : Nat) : Int)), .int .i64 (k + ((j * 3 : Nat) : Int) + 1), .int .i64 (k + ((j * 3 : Nat) : Int) + 1 + 1)] (j * 3) wr hb
      rw [show j * 3 + 3 = (j + 1) * 3 by omega] at hst
      push_cast at hst hsb ⊢
      go_wp2
      go_roundw
      case rel => exact ⟨j + 1, by omega, by go_num, int_eq (by omega), hst, hsb⟩
      case measure => simp [intOf]; omega
    · have hjn : j = n := by omega
      have e : mk k (j * 3) ++ xs.drop (j * 3) = mk k (n * 3) := by rw [hjn, List.drop_of_length_le (by omega), List.append_nil]
      rw [e] at ho
      clear e
      have hjn := Lib.hid hjn
      go_wp2
      go_ret
      exact ⟨ret_int (by have := hjn.out; omega), ho, hb⟩
def noteOk (x : Note) : Bool := inB x.1 1 3 && inB x.2.1 0 1000000 && inB x.2.2 0 3 && !(x.1 == 3 && x.2.2 != 0)
def goodNotes (l : List Note) : Bool := l.all noteOk && decide (l.length ≤ 3000)

theorem specL11Good (w : World) (lo hi n c : Nat) (A : Option Addr) (l : List Note) (h : Sl noteR w lo hi A n c l) (hh : hi ≤ w.heap.size) :
    Calls Try.prog 43 #[.slice A n c] w (RetB (goodNotes l) w) := by
  have e1 := h.lenEq
  have b1 := h.lenLe
  go_enter Try.func43, Try.ntmps43
  go_wp2
  go_loopw [7] (fun i wr => ∃ k : Nat, k ≤ n ∧ i = .int .i64 k ∧ (l.take k).all noteOk = true ∧ Below w.heap.size w wr) (fun i _ => n - (intOf i).toNat)
  case atStart => exact ⟨0, Nat.zero_le _, rfl, rfl, Below.refl _ _⟩
  case round =>
    obtain ⟨k, hk, rfl, ht0, hb⟩ := hrel
    have ht := Lib.hid ht0
    clear ht0
    by_cases hlt : k < n
    · obtain ⟨b, o, x, y, z, rfl, _, _, hl0, _, _, _, hc1, hc2, hc3⟩ := (h.below hb hh).note_at hlt
      have hok := Lib.hid (fun (hp : noteOk (x, y, z) = true) => all_take_succ (p := noteOk) ht.out (by omega) (by rw [hl0]; exact hp))
      have hno := Lib.hid (fun (hp : noteOk (x, y, z) = false) => all_false (p := noteOk) (l := l) (k := k) (by omega) (by rw [hl0]; exact hp))
      clear hl0
      go_wp2_with (go_at_call 63; refine (specL1In _ _ _ _).mono ?_; rintro e w2 ⟨rfl, rfl⟩)
      all_goals first
        | (go_roundw
           case rel => exact ⟨k + 1, by omega, by go_num, hok.out (by simp_all [noteOk]), by exact belA⟩
           case measure => simp [intOf]; omega)
        | (go_ret
           exact RetB.mk (by rw [goodNotes, hno.out (by simp_all [noteOk])]; rfl) (by exact belA))
    · go_wp2
      go_ret
      exact RetB.mk (by rw [List.take_of_length_le (by omega)] at ht; rw [goodNotes, ht.out, e1]; simp; omega) hb
theorem lawsSzNoteS (w : World) (n c : Nat) (A : Option Addr) (left : Int) (h1 : 0 ≤ left) (h2 : left ≤ 1048576) (hn : n ≤ 9223372036854775807) :
    Calls Try.prog 9 #[.slice A n c, .int .i64 left] w (RetSz left n w) := by
  by_cases h : (n : Int) ≤ left
  · go_enter Try.func9, Try.ntmps9
    go_wp2
    go_ret
    exact ⟨_, rfl, Or.inr ⟨by omega, rfl⟩, Below.refl _ _⟩
  · have hd : decide (left - (n : Int) < 0) = true := by simp; omega
    go_enter Try.func9, Try.ntmps9
    go_wp2
    go_ret
    exact ⟨_, rfl, Or.inl rfl, Below.refl _ _⟩
end Go.Proofs.Ytgdeclmciflmpaa

/- slices.IndexFunc, slices.ContainsFunc over slices of Note. Printed by anygen.py. Walks. -/
set_option linter.unusedVariables false
set_option linter.unusedSimpArgs false
set_option maxRecDepth 100000
namespace Go.Proofs.Ytgdeclmciflmpaa
open Go.RowKit

theorem idxFuncNote (g : FuncId) (cap : Array Value) (p : Note → Bool) (w : World) (lo hi n c : Nat) (A : Option Addr) (l : List Note) (h : Sl noteR w lo hi A n c l) (hh : hi ≤ w.heap.size)
    (eg : ∀ (args : Array Value) (w : World), (callFunc g args).run Try.prog w = .ok (.enter g args) w)
    (hp : ∀ (W : World) (x0 : Int) (x1 : Int) (x2 : Int), (x0, x1, x2) ∈ l → Below w.heap.size w W → I64 x0 → I64 x1 → I64 x2 → Calls Try.prog g (#[.agg #[.int .i64 x0, .int .i64 x1, .int .i64 x2]] ++ cap) W (RetB (p (x0, x1, x2)) W)) :
    Calls Try.prog 122 #[.slice A n c, .func (.func g) #[] cap] w (RetIx (idxW p l) w) := by
  have e1 := h.lenEq
  have b1 := h.lenLe
  have HP := Lib.hid hp
  clear hp
  go_enter Try.func122, Try.ntmps122
  go_wp2
  go_loopw [8] (fun i wr => ∃ k : Nat, k ≤ n ∧ i = .int .i64 k ∧ (l.take k).any p = false ∧ Below w.heap.size w wr) (fun i _ => n - (intOf i).toNat)
  case atStart => exact ⟨0, Nat.zero_le _, rfl, rfl, Below.refl _ _⟩
  case round =>
    obtain ⟨k, hk, rfl, ht0, hb⟩ := hrel
    have ht := Lib.hid ht0
    clear ht0
    by_cases hlt : k < n
    · obtain ⟨b, o, x0, x1, x2, rfl, _, _, hl0, i0, i1, i2, d0, d1, d2⟩ := (h.below hb hh).note_at hlt
      have hmem : (x0, x1, x2) ∈ l := hl0 ▸ List.getElem_mem (l := l) (n := k) (by omega)
      have hok := Lib.hid (fun (hp : p (x0, x1, x2) = false) => any_take_succ (p := p) ht.out (by omega) (by rw [hl0]; exact hp))
      have hno := Lib.hid (fun (hp : p (x0, x1, x2) = true) => idxW_at (p := p) (l := l) (k := k) (by omega) ht.out (by rw [hl0]; exact hp))
      have HC := Lib.hid (fun W (hW : Below wr.heap.size wr W) => HP.out W x0 x1 x2 hmem (below_then hb hW) i0 i1 i2)
      clear hl0 hmem
      go_wp2_with fail
      refine (HC.out _ (by exact belA)).mono ?_
      rintro e w2 ⟨rfl, hb2⟩
      have hb3 := below_then hb (show Below wr.heap.size wr w2 by exact belA)
      clear HC
      by_cases hpx : p (x0, x1, x2) = true
      · have hs := Lib.hid (hno.out hpx)
        go_wp2_with fail
        go_ret
        exact ⟨rfl_ix hs.out.symm, hb3⟩
      · have hpx : p (x0, x1, x2) = false := by simpa using hpx
        have hs := Lib.hid (hok.out hpx)
        go_wp2_with fail
        go_roundw
        case rel => exact ⟨k + 1, by omega, by go_num, hs.out, hb3⟩
        case measure => simp [intOf]; omega
    · have hs := Lib.hid (idxW_none (p := p) (l := l) (by have := ht.out; rwa [List.take_of_length_le (by omega)] at this))
      go_wp2_with fail
      go_ret
      exact ⟨rfl_ix hs.out.symm, hb⟩
theorem conFuncNote (g : FuncId) (cap : Array Value) (p : Note → Bool) (w : World) (lo hi n c : Nat) (A : Option Addr) (l : List Note) (h : Sl noteR w lo hi A n c l) (hh : hi ≤ w.heap.size)
    (eg : ∀ (args : Array Value) (w : World), (callFunc g args).run Try.prog w = .ok (.enter g args) w)
    (hp : ∀ (W : World) (x0 : Int) (x1 : Int) (x2 : Int), (x0, x1, x2) ∈ l → Below w.heap.size w W → I64 x0 → I64 x1 → I64 x2 → Calls Try.prog g (#[.agg #[.int .i64 x0, .int .i64 x1, .int .i64 x2]] ++ cap) W (RetB (p (x0, x1, x2)) W)) :
    Calls Try.prog 79 #[.slice A n c, .func (.func g) #[] cap] w (RetB (l.any p) w) := by
  have HP := Lib.hid hp
  have EG := Lib.hid eg
  have e1 := h.lenEq
  have b1 := h.lenLe
  clear hp eg
  have hq := Lib.hid (idxW_any p l)
  obtain ⟨v, hv0⟩ : ∃ v, v = idxW p l := ⟨_, rfl⟩
  have hv := Lib.hid hv0
  clear hv0
  go_enter Try.func79, Try.ntmps79
  go_wp2_with fail
  refine (idxFuncNote g cap p _ lo hi n c A l h hh EG.out HP.out).mono ?_
  rintro e w2 ⟨rfl, hb⟩
  rw [← hv.out]
  go_wp2_with fail
  go_ret
  exact RetB.mk (by rw [← hq.out, ← hv.out]) hb
end Go.Proofs.Ytgdeclmciflmpaa

/- Frame: how it lies in cells; the laws' own helpers over it. Printed by typegen.py. Walks. -/
set_option linter.unusedVariables false
set_option linter.unusedSimpArgs false
set_option maxRecDepth 100000
namespace Go.Proofs.Ytgdeclmciflmpaa
open Go.RowKit

abbrev Frame := Int × Int × Int × List Int × List Int × List Bool × Int × Int × Int × Int × Bool
def FrameR : Rp Frame := pairR intR (pairR intR (pairR intR (pairR (sliceR 3 intR) (pairR (sliceR 3 intR) (pairR (sliceR 4 boolR) (pairR intR (pairR intR (pairR intR (pairR intR (boolR))))))))))
def mszFrame (x : Frame) : Nat := (x.2.2.2.1).length + (x.2.2.2.2.1).length + (x.2.2.2.2.2.1).length
def mszLFrame (l : List Frame) : Nat := l.length + (l.map mszFrame).sum
theorem mszFrame_at {l : List Frame} {k : Nat} (hk : k < l.length) : mszFrame l[k] ≤ mszLFrame l := by have := mem_sum_le (f := mszFrame) (List.getElem_mem hk); unfold mszLFrame; omega
theorem mszLFrame_len (l : List Frame) : l.length ≤ mszLFrame l := by unfold mszLFrame; omega
theorem Frame_rel {w : World} {lo hi : Nat} {cs : List Value} {x : Frame} (h : FrameR.rel w lo hi cs x) : ∃ x0 x1 x2 A3 n3 c3 s3 A4 n4 c4 s4 A5 n5 c5 s5 x6 x7 x8 x9 y10, cs = ([.int .i64 x0, .int .i64 x1, .int .i64 x2, .slice A3 n3 c3, .slice A4 n4 c4, .slice A5 n5 c5, .int .i64 x6, .int .i64 x7, .int .i64 x8, .int .i64 x9, .bool y10] : List Value) ∧ x = (x0, x1, x2, s3, s4, s5, x6, x7, x8, x9, y10) ∧ I64 x0 ∧ I64 x1 ∧ I64 x2 ∧ Sl intR w lo hi A3 n3 c3 s3 ∧ Sl intR w lo hi A4 n4 c4 s4 ∧ Sl boolR w lo hi A5 n5 c5 s5 ∧ I64 x6 ∧ I64 x7 ∧ I64 x8 ∧ I64 x9 := by
  obtain ⟨_, _, rfl, ⟨rfl, i0⟩, _, _, rfl, ⟨rfl, i1⟩, _, _, rfl, ⟨rfl, i2⟩, _, _, rfl, ⟨A3, n3, c3, rfl, h3⟩, _, _, rfl, ⟨A4, n4, c4, rfl, h4⟩, _, _, rfl, ⟨A5, n5, c5, rfl, h5⟩, _, _, rfl, ⟨rfl, i6⟩, _, _, rfl, ⟨rfl, i7⟩, _, _, rfl, ⟨rfl, i8⟩, _, _, rfl, ⟨rfl, i9⟩, ⟨rfl, _⟩⟩ := h
  exact ⟨x.1, x.2.1, x.2.2.1, A3, n3, c3, x.2.2.2.1, A4, n4, c4, x.2.2.2.2.1, A5, n5, c5, x.2.2.2.2.2.1, x.2.2.2.2.2.2.1, x.2.2.2.2.2.2.2.1, x.2.2.2.2.2.2.2.2.1, x.2.2.2.2.2.2.2.2.2.1, x.2.2.2.2.2.2.2.2.2.2, rfl, rfl, i0, i1, i2, h3, h4, h5, i6, i7, i8, i9⟩
theorem Frame_own {w : World} {x0 : Int} {x1 : Int} {x2 : Int} {A3 : Option Addr} {n3 c3 : Nat} {s3 : List Int} {A4 : Option Addr} {n4 c4 : Nat} {s4 : List Int} {A5 : Option Addr} {n5 c5 : Nat} {s5 : List Bool} {x6 : Int} {x7 : Int} {x8 : Int} {x9 : Int} {y10 : Bool} {F3 : List Nat} (o3 : OwnSl intR w 3 F3 (.slice A3 n3 c3) s3) {F4 : List Nat} (o4 : OwnSl intR w 3 F4 (.slice A4 n4 c4) s4) {F5 : List Nat} (o5 : OwnSl boolR w 4 F5 (.slice A5 n5 c5) s5) (i0 : I64 x0) (i1 : I64 x1) (i2 : I64 x2) (i6 : I64 x6) (i7 : I64 x7) (i8 : I64 x8) (i9 : I64 x9) (hF : ((F3 ++ (F4 ++ F5))).Nodup) : FrameR.own w ((F3 ++ (F4 ++ F5))) [.int .i64 x0, .int .i64 x1, .int .i64 x2, .slice A3 n3 c3, .slice A4 n4 c4, .slice A5 n5 c5, .int .i64 x6, .int .i64 x7, .int .i64 x8, .int .i64 x9, .bool y10] (x0, x1, x2, s3, s4, s5, x6, x7, x8, x9, y10) := by
  have hF2 := hF; simp only [List.nodup_append] at hF2
  exact ⟨[_], [_, _, _, _, _, _, _, _, _, _], [], (F3 ++ (F4 ++ F5)), rfl, by simp, ⟨rfl, rfl, i0⟩, ⟨[_], [_, _, _, _, _, _, _, _, _], [], (F3 ++ (F4 ++ F5)), rfl, by simp, ⟨rfl, rfl, i1⟩, ⟨[_], [_, _, _, _, _, _, _, _], [], (F3 ++ (F4 ++ F5)), rfl, by simp, ⟨rfl, rfl, i2⟩, ⟨[_], [_, _, _, _, _, _, _], F3, (F4 ++ F5), rfl, by simp, ⟨A3, n3, c3, rfl, o3⟩, ⟨[_], [_, _, _, _, _, _], F4, F5, rfl, by simp, ⟨A4, n4, c4, rfl, o4⟩, ⟨[_], [_, _, _, _, _], F5, [], rfl, by simp, ⟨A5, n5, c5, rfl, o5⟩, ⟨[_], [_, _, _, _], [], [], rfl, by simp, ⟨rfl, rfl, i6⟩, ⟨[_], [_, _, _], [], [], rfl, by simp, ⟨rfl, rfl, i7⟩, ⟨[_], [_, _], [], [], rfl, by simp, ⟨rfl, rfl, i8⟩, ⟨[_], [_], [], [], rfl, by simp, ⟨rfl, rfl, i9⟩, ⟨rfl, rfl, trivial⟩, by simp_all [List.nodup_append]⟩, by simp_all [List.nodup_append]⟩, by simp_all [List.nodup_append]⟩, by simp_all [List.nodup_append]⟩, by simp_all [List.nodup_append]⟩, by simp_all [List.nodup_append]⟩, by simp_all [List.nodup_append]⟩, by simp_all [List.nodup_append]⟩, by simp_all [List.nodup_append]⟩, by simp_all [List.nodup_append]⟩
theorem Frame_sl3 {w : World} {F : List Nat} {x0 : Int} {x1 : Int} {x2 : Int} {A3 : Option Addr} {n3 c3 : Nat} {s3 : List Int} {A4 : Option Addr} {n4 c4 : Nat} {s4 : List Int} {A5 : Option Addr} {n5 c5 : Nat} {s5 : List Bool} {x6 : Int} {x7 : Int} {x8 : Int} {x9 : Int} {y10 : Bool} (h : FrameR.own w F [.int .i64 x0, .int .i64 x1, .int .i64 x2, .slice A3 n3 c3, .slice A4 n4 c4, .slice A5 n5 c5, .int .i64 x6, .int .i64 x7, .int .i64 x8, .int .i64 x9, .bool y10] (x0, x1, x2, s3, s4, s5, x6, x7, x8, x9, y10)) : Sl intR w 0 w.heap.size A3 n3 c3 s3 := by
  have hr := FrameR.ownRel h (fun k hk => ⟨Nat.zero_le k, FrameR.ownLt h k hk⟩)
  obtain ⟨x0q, x1q, x2q, A3q, n3q, c3q, s3q, A4q, n4q, c4q, s4q, A5q, n5q, c5q, s5q, x6q, x7q, x8q, x9q, y10q, e, hx, i0, i1, i2, h3, h4, h5, i6, i7, i8, i9⟩ := Frame_rel hr
  simp only [List.cons.injEq, Value.slice.injEq, Value.int.injEq, Value.bool.injEq, and_true, true_and, Prod.mk.injEq] at e hx
  simp only [e, hx]; exact h3
theorem Frame_sl4 {w : World} {F : List Nat} {x0 : Int} {x1 : Int} {x2 : Int} {A3 : Option Addr} {n3 c3 : Nat} {s3 : List Int} {A4 : Option Addr} {n4 c4 : Nat} {s4 : List Int} {A5 : Option Addr} {n5 c5 : Nat} {s5 : List Bool} {x6 : Int} {x7 : Int} {x8 : Int} {x9 : Int} {y10 : Bool} (h : FrameR.own w F [.int .i64 x0, .int .i64 x1, .int .i64 x2, .slice A3 n3 c3, .slice A4 n4 c4, .slice A5 n5 c5, .int .i64 x6, .int .i64 x7, .int .i64 x8, .int .i64 x9, .bool y10] (x0, x1, x2, s3, s4, s5, x6, x7, x8, x9, y10)) : Sl intR w 0 w.heap.size A4 n4 c4 s4 := by
  have hr := FrameR.ownRel h (fun k hk => ⟨Nat.zero_le k, FrameR.ownLt h k hk⟩)
  obtain ⟨x0q, x1q, x2q, A3q, n3q, c3q, s3q, A4q, n4q, c4q, s4q, A5q, n5q, c5q, s5q, x6q, x7q, x8q, x9q, y10q, e, hx, i0, i1, i2, h3, h4, h5, i6, i7, i8, i9⟩ := Frame_rel hr
  simp only [List.cons.injEq, Value.slice.injEq, Value.int.injEq, Value.bool.injEq, and_true, true_and, Prod.mk.injEq] at e hx
  simp only [e, hx]; exact h4
theorem Frame_sl5 {w : World} {F : List Nat} {x0 : Int} {x1 : Int} {x2 : Int} {A3 : Option Addr} {n3 c3 : Nat} {s3 : List Int} {A4 : Option Addr} {n4 c4 : Nat} {s4 : List Int} {A5 : Option Addr} {n5 c5 : Nat} {s5 : List Bool} {x6 : Int} {x7 : Int} {x8 : Int} {x9 : Int} {y10 : Bool} (h : FrameR.own w F [.int .i64 x0, .int .i64 x1, .int .i64 x2, .slice A3 n3 c3, .slice A4 n4 c4, .slice A5 n5 c5, .int .i64 x6, .int .i64 x7, .int .i64 x8, .int .i64 x9, .bool y10] (x0, x1, x2, s3, s4, s5, x6, x7, x8, x9, y10)) : Sl boolR w 0 w.heap.size A5 n5 c5 s5 := by
  have hr := FrameR.ownRel h (fun k hk => ⟨Nat.zero_le k, FrameR.ownLt h k hk⟩)
  obtain ⟨x0q, x1q, x2q, A3q, n3q, c3q, s3q, A4q, n4q, c4q, s4q, A5q, n5q, c5q, s5q, x6q, x7q, x8q, x9q, y10q, e, hx, i0, i1, i2, h3, h4, h5, i6, i7, i8, i9⟩ := Frame_rel hr
  simp only [List.cons.injEq, Value.slice.injEq, Value.int.injEq, Value.bool.injEq, and_true, true_and, Prod.mk.injEq] at e hx
  simp only [e, hx]; exact h5
theorem Frame_at {w : World} {lo hi : Nat} {A : Option Addr} {n c k : Nat} {l : List Frame} (h : Sl FrameR w lo hi A n c l) (hk : k < n) :
    ∃ b off x0 x1 x2 A3 n3 c3 s3 A4 n4 c4 s4 A5 n5 c5 s5 x6 x7 x8 x9 y10, A = some ⟨b, off, none⟩ ∧ lo ≤ b ∧ b < hi ∧ l[k]'(by have := h.1; omega) = (x0, x1, x2, s3, s4, s5, x6, x7, x8, x9, y10) ∧ I64 x0 ∧ I64 x1 ∧ I64 x2 ∧ Sl intR w lo hi A3 n3 c3 s3 ∧ Sl intR w lo hi A4 n4 c4 s4 ∧ Sl boolR w lo hi A5 n5 c5 s5 ∧ I64 x6 ∧ I64 x7 ∧ I64 x8 ∧ I64 x9 ∧ w.cell? ⟨b, off + k * 11, none⟩ = some (.int .i64 x0) ∧ w.cell? ⟨b, off + k * 11 + 1, none⟩ = some (.int .i64 x1) ∧ w.cell? ⟨b, off + k * 11 + 2, none⟩ = some (.int .i64 x2) ∧ w.cell? ⟨b, off + k * 11 + 3, none⟩ = some (.slice A3 n3 c3) ∧ w.cell? ⟨b, off + k * 11 + 4, none⟩ = some (.slice A4 n4 c4) ∧ w.cell? ⟨b, off + k * 11 + 5, none⟩ = some (.slice A5 n5 c5) ∧ w.cell? ⟨b, off + k * 11 + 6, none⟩ = some (.int .i64 x6) ∧ w.cell? ⟨b, off + k * 11 + 7, none⟩ = some (.int .i64 x7) ∧ w.cell? ⟨b, off + k * 11 + 8, none⟩ = some (.int .i64 x8) ∧ w.cell? ⟨b, off + k * 11 + 9, none⟩ = some (.int .i64 x9) ∧ w.cell? ⟨b, off + k * 11 + 10, none⟩ = some (.bool y10) := by
  obtain ⟨b, off, cs, rfl, hb1, hb2, hr, hc⟩ := h.at_ hk
  obtain ⟨x0, x1, x2, A3, n3, c3, s3, A4, n4, c4, s4, A5, n5, c5, s5, x6, x7, x8, x9, y10, rfl, hx, i0, i1, i2, h3, h4, h5, i6, i7, i8, i9⟩ := Frame_rel hr
  exact ⟨b, off, x0, x1, x2, A3, n3, c3, s3, A4, n4, c4, s4, A5, n5, c5, s5, x6, x7, x8, x9, y10, rfl, hb1, hb2, hx, i0, i1, i2, h3, h4, h5, i6, i7, i8, i9, hc 0 (by simp), hc 1 (by simp), hc 2 (by simp), hc 3 (by simp), hc 4 (by simp), hc 5 (by simp), hc 6 (by simp), hc 7 (by simp), hc 8 (by simp), hc 9 (by simp), hc 10 (by simp)⟩
end Go.Proofs.Ytgdeclmciflmpaa

/- slices.IndexFunc, slices.ContainsFunc over slices of Frame. Printed by anygen.py. Walks. -/
set_option linter.unusedVariables false
set_option linter.unusedSimpArgs false
set_option maxRecDepth 100000
namespace Go.Proofs.Ytgdeclmciflmpaa
open Go.RowKit

end Go.Proofs.Ytgdeclmciflmpaa
