/- Notes: the laws' helpers over lists of notes. Walks. -/
import Derived.Test.YtfilenabhjjidaaUtil
import Derived.Deep.RegionHeld3
set_option linter.unusedVariables false
set_option linter.unusedSimpArgs false
namespace Go.Proofs.Ytfilenabhjjidaa
open Go.RowKit

abbrev Note := Int × Int × Int
def noteR : Rp Note := pairR intR (pairR intR intR)

theorem lawsEqNote (w : World) (a b c a' b' c' : Int) :
    Calls Try.prog 80 #[.agg #[.int .i64 a, .int .i64 b, .int .i64 c], .agg #[.int .i64 a', .int .i64 b', .int .i64 c']] w (RetB (eqB (a, b, c) (a', b', c')) w) := by
  go_enter Try.func80, Try.ntmps80
  go_wp2
  all_goals (go_ret; exact RetB.mk (by simp_all [eqB]) (by (repeat (first | with_reducible exact Below.refl _ _ | with_reducible assumption | with_reducible refine below_alloc ?_ _ | ((with_reducible refine Below.setCell ?_ ?_ _); rotate_left; (· first | exact Nat.le_refl _ | (simp; done) | (simp; omega))) | with_reducible refine below_drewN ?_ _ | with_reducible refine Below.drew ?_ | with_reducible refine below_then ?_ (by with_reducible assumption)))))

theorem Sl.note_at {w : World} {lo hi : Nat} {A : Option Addr} {n c k : Nat} {l : List Note} (h : Sl noteR w lo hi A n c l) (hk : k < n) :
    ∃ b off x y z, A = some ⟨b, off, none⟩ ∧ lo ≤ b ∧ b < hi ∧ l[k]'(by have := h.1; omega) = (x, y, z) ∧ I64 x ∧ I64 y ∧ I64 z ∧
      w.cell? ⟨b, off + k * 3, none⟩ = some (.int .i64 x) ∧ w.cell? ⟨b, off + k * 3 + 1, none⟩ = some (.int .i64 y) ∧
      w.cell? ⟨b, off + k * 3 + 2, none⟩ = some (.int .i64 z) := by
  obtain ⟨b, off, cs, rfl, h1, h2, hr, hc⟩ := h.at_ hk
  obtain ⟨_, _, rfl, ⟨rfl, i1⟩, _, _, rfl, ⟨rfl, i2⟩, ⟨rfl, i3⟩⟩ := hr
  exact ⟨b, off, _, _, _, rfl, h1, h2, rfl, i1, i2, i3, hc 0 (by simp), hc 1 (by simp), hc 2 (by simp)⟩

theorem noteOwn (w : World) (x y z : Int) (i1 : I64 x) (i2 : I64 y) (i3 : I64 z) : noteR.own w [] [.int .i64 x, .int .i64 y, .int .i64 z] (x, y, z) :=
  ⟨[_], [_, _], [], [], rfl, rfl, ⟨rfl, rfl, i1⟩, ⟨[_], [_], [], [], rfl, rfl, ⟨rfl, rfl, i2⟩, ⟨rfl, rfl, i3⟩, by simp⟩, by simp⟩
theorem Note_own (w : World) (x0 x1 x2 : Int) (i0 : I64 x0) (i1 : I64 x1) (i2 : I64 x2) : noteR.own w [] [.int .i64 x0, .int .i64 x1, .int .i64 x2] (x0, x1, x2) := noteOwn w x0 x1 x2 i0 i1 i2
theorem lawsToNote (w : World) (a b c : Int) :
    Calls Try.prog 77 #[.agg #[.int .i64 a, .int .i64 b, .int .i64 c]] w fun e w' => e = .returned (.agg #[.int .i64 a, .int .i64 b, .int .i64 c]) ∧ Below w.heap.size w w' := by
  go_enter Try.func77, Try.ntmps77
  go_wp2
  refine bodyPost_ret (v := .agg #[.int .i64 a, .int .i64 b, .int .i64 c]) (by simp [results, Try.results77, go_sem]) rfl ⟨rfl, by (repeat (first | with_reducible exact Below.refl _ _ | with_reducible assumption | with_reducible refine below_alloc ?_ _ | ((with_reducible refine Below.setCell ?_ ?_ _); rotate_left; (· first | exact Nat.le_refl _ | (simp; done) | (simp; omega))) | with_reducible refine below_drewN ?_ _ | with_reducible refine Below.drew ?_ | with_reducible refine below_then ?_ (by with_reducible assumption)))⟩

theorem Try.infoNote : (Try.prog.info? 112).map (fun i => (i.zero, i.size, i.bytes)) = some (some (.agg #[.int .i64 0, .int .i64 0, .int .i64 0]), 3, 24) := by kernel_rfl
theorem lawsToNoteS (w : World) (lo hi n c : Nat) (A : Option Addr) (l : List Note) (h : Sl noteR w lo hi A n c l) (hh : hi ≤ w.heap.size) (hn : n ≤ 1048576) :
    Calls Try.prog 18 #[.slice A n c] w (RetOwn noteR 112 l w) := by
  have e1 := h.lenEq
  obtain ⟨i0, hi0, hz0, hz1, hz2⟩ := info_parts Try.infoNote
  go_enter Try.func18, Try.ntmps18
  go_wp2_with (at_make; refine wpList_make_full _ rfl _ _ 29 rfl 0 112 i0 (.agg #[.int .i64 0, .int .i64 0, .int .i64 0]) 3 Try.underlying29 hi0 hz0 hz1 _ _ _ _ n rfl rfl rfl rfl (by rw [hz2]; omega) (by unfold maxLen; omega) (Nat.zero_le _) ?_)
  intro w1 hown hg
  have hF := Fill.start (R := noteR) hown
  have hb0 : Below w.heap.size w w1 := (Below.refl _ _).grown hg (Nat.le_refl _) (fun k hk => by cases hk)
  go_wp2
  go_loopw [4] (fun i wr => ∃ k : Nat, k ≤ n ∧ i = .int .i64 k ∧ Fill noteR wr 112 [w.heap.size] w.heap.size n (l.take k) ∧ Below w.heap.size w wr) (fun i _ => n - (intOf i).toNat)
  case atStart => exact ⟨0, Nat.zero_le _, rfl, hF, hb0⟩
  case round =>
    obtain ⟨k, hk, rfl, hF, hb⟩ := hrel
    by_cases hlt : k < n
    · obtain ⟨b, o, x, y, z, rfl, _, _, hl, i1, i2, i3, hc1, hc2, hc3⟩ := (h.below hb hh).note_at hlt
      have hl := Lib.hid hl
      go_wp2_with fail
      refine (lawsToNote _ x y z).mono ?_
      rintro e w2 ⟨rfl, hb2⟩
      have hF2 := hF.below hb2
      have hlk : (l.take k).length = k := by simp; omega
      obtain ⟨u0, hu0⟩ : ∃ u, w2.cell? ⟨w.heap.size, k * 3, none⟩ = some u := hF2.cell' hlk hlt (j := 0) (by decide)
      obtain ⟨u1, hu1⟩ : ∃ u, w2.cell? ⟨w.heap.size, k * 3 + 1, none⟩ = some u := hF2.cell' hlk hlt (j := 1) (by decide)
      obtain ⟨u2, hu2⟩ : ∃ u, w2.cell? ⟨w.heap.size, k * 3 + 2, none⟩ = some u := hF2.cell' hlk hlt (j := 2) (by decide)
      have f0 := hF2.frozen (k * 3)
      have f1 := hF2.frozen (k * 3 + 1)
      have f2 := hF2.frozen (k * 3 + 2)
      have hst := hF2.step' (Fx := []) (cs := [.int .i64 x, .int .i64 y, .int .i64 z]) e1 hlt (by rw [hl.out]; exact noteOwn _ _ _ _ i1 i2 i3) (by simp)
      have hb3 := below_setCells w.heap.size (Nat.le_refl _) [.int .i64 x, .int .i64 y, .int .i64 z] (k * 3) w2 (below_then hb hb2)
      clear hlk
      go_wp2
      go_roundw
      case rel => exact ⟨k + 1, by omega, by go_num, hst, hb3⟩
      case measure => simp [intOf]; omega
    · go_wp2
      go_ret
      exact RetOwn.mk rfl (hF.all e1 (by omega)) (by simp) hb
theorem lawsEqNoteS (w : World) (lo hi lo' hi' n n' c c' : Nat) (A A' : Option Addr) (l l' : List Note) (h : Sl noteR w lo hi A n c l) (h' : Sl noteR w lo' hi' A' n' c' l') (hh : hi ≤ w.heap.size) (hh' : hi' ≤ w.heap.size) :
    Calls Try.prog 20 #[.slice A n c, .slice A' n' c'] w (RetB (eqB l l') w) := by
  have e1 := h.lenEq
  have e2 := h'.lenEq
  have b1 := h.lenLe
  have b2 := h'.lenLe
  by_cases hn : n = n'
  · subst hn
    have hn' : ((n : Int) != (n : Int)) = false := by simp
    go_enter Try.func20, Try.ntmps20
    go_wp2
    go_loopw [5] (fun i wr => ∃ k : Nat, k ≤ n ∧ i = .int .i64 k ∧ l.take k = l'.take k ∧ Below w.heap.size w wr) (fun i _ => n - (intOf i).toNat)
    case atStart => exact ⟨0, Nat.zero_le _, rfl, rfl, Below.refl _ _⟩
    case round =>
      obtain ⟨k, hk, rfl, ht0, hb⟩ := hrel
      have ht := Lib.hid ht0
      clear ht0
      by_cases hlt : k < n
      · obtain ⟨b, o, x, y, z, rfl, _, _, hl0, _, _, _, hc1, hc2, hc3⟩ := (h.below hb hh).note_at hlt
        obtain ⟨b', o', x', y', z', rfl, _, _, hl0', _, _, _, hc1', hc2', hc3'⟩ := (h'.below hb hh').note_at hlt
        have hl := Lib.hid hl0
        have hl' := Lib.hid hl0'
        clear hl0 hl0'
        have hst := Lib.hid (fun (he : l[k]'(by omega) = l'[k]'(by omega)) => take_eq_snoc ht.out (by omega) (by omega) he)
        have hne := Lib.hid (fun (he : ¬ l[k]'(by omega) = l'[k]'(by omega)) => ne_of_at (by omega) (by omega) he)
        by_cases he0 : (x, y, z) = (x', y', z')
        · have hd := eqB_true he0
          have hs := Lib.hid (hst.out (by rw [hl.out, hl'.out, he0]))
          clear he0
          go_wp2_with fail
          go_region_held3 (fun w' => w'.cell? ⟨b, o + k * 3, none⟩ = some (.int .i64 x) ∧ w'.cell? ⟨b, o + k * 3 + 1, none⟩ = some (.int .i64 y) ∧ w'.cell? ⟨b, o + k * 3 + 2, none⟩ = some (.int .i64 z) ∧ w'.cell? ⟨b', o' + k * 3, none⟩ = some (.int .i64 x') ∧ w'.cell? ⟨b', o' + k * 3 + 1, none⟩ = some (.int .i64 y') ∧ w'.cell? ⟨b', o' + k * 3 + 2, none⟩ = some (.int .i64 z')) (first | exact ⟨hc1, hc2, hc3, hc1', hc2', hc3'⟩ | exact ⟨below_cell hb2 hc1, below_cell hb2 hc2, below_cell hb2 hc3, below_cell hb2 hc1', below_cell hb2 hc2', below_cell hb2 hc3'⟩)
            (first | (go_at_call 80; refine (lawsEqNote _ x y z x' y' z').mono ?_; rintro e w2 ⟨rfl, hb2⟩))
          have hb3 := below_then hb.drew hb2
          go_wp2_with fail
          go_roundw
          case rel => exact ⟨k + 1, by omega, by go_num, hs.out, hb3⟩
          case measure => simp [intOf]; omega
        · have hd := eqB_false he0
          have hs := Lib.hid (eqB_false (hne.out (by rw [hl.out, hl'.out]; exact he0)))
          clear he0
          go_wp2_with fail
          go_region_held3 (fun w' => w'.cell? ⟨b, o + k * 3, none⟩ = some (.int .i64 x) ∧ w'.cell? ⟨b, o + k * 3 + 1, none⟩ = some (.int .i64 y) ∧ w'.cell? ⟨b, o + k * 3 + 2, none⟩ = some (.int .i64 z) ∧ w'.cell? ⟨b', o' + k * 3, none⟩ = some (.int .i64 x') ∧ w'.cell? ⟨b', o' + k * 3 + 1, none⟩ = some (.int .i64 y') ∧ w'.cell? ⟨b', o' + k * 3 + 2, none⟩ = some (.int .i64 z')) (first | exact ⟨hc1, hc2, hc3, hc1', hc2', hc3'⟩ | exact ⟨below_cell hb2 hc1, below_cell hb2 hc2, below_cell hb2 hc3, below_cell hb2 hc1', below_cell hb2 hc2', below_cell hb2 hc3'⟩)
            (first | (go_at_call 80; refine (lawsEqNote _ x y z x' y' z').mono ?_; rintro e w2 ⟨rfl, hb2⟩))
          have hb3 := below_then hb.drew hb2
          go_wp2_with fail
          go_ret
          exact RetB.mk hs.out.symm hb3
      · go_wp2_with fail
        go_ret
        exact RetB.mk (eqB_true (eq_of_takes ht.out (by omega) (by omega))).symm hb
  · have hn' : ((n : Int) != (n' : Int)) = true := by simp; omega
    have hd := Lib.hid (eqB_false (x := l) (y := l') (by rintro rfl; omega))
    go_enter Try.func20, Try.ntmps20
    go_wp2
    go_ret
    exact RetB.mk hd.out.symm (Below.refl _ _)
theorem lawsMarkNoteS (w : World) (n c : Nat) (A : Option Addr) (xs : List Value) (k : Int) (F : List Nat) (h : w.ownsRow 0 112 3 (.slice A n c) n xs) (hF : ∀ g, A = some ⟨g, 0, none⟩ → g ∈ F) (h1 : 0 ≤ k) (h2 : k ≤ 1152921504606846976) (hn : n ≤ 1152921504606846976) :
    Calls Try.prog 45 #[.slice A n c, .int .i64 k] w (RetMark 112 3 n (.slice A n c) k F w) := by
  have hl := h.1
  go_enter Try.func45, Try.ntmps45
  go_wp2
  go_loopw [1, 5] (fun kk i wr => ∃ j : Nat, j ≤ n ∧ i = .int .i64 j ∧ kk = .int .i64 (k + ((j * 3 : Nat) : Int)) ∧ wr.ownsRow 0 112 3 (.slice A n c) n (mk k (j * 3) ++ xs.drop (j * 3)) ∧ Fr F w wr) (fun _ i _ => n - (intOf i).toNat)
  case atStart => exact ⟨0, Nat.zero_le _, rfl, by simp, by simpa [mk] using h, Fr.refl _ _⟩
  case round =>
    obtain ⟨j, hj, rfl, rfl, ho, hb⟩ := hrel
    by_cases hlt : j < n
    · obtain ⟨_, ⟨rfl, h0, _⟩ | ⟨g, rfl, _⟩⟩ := ownsRow_cases ho
      · omega
      obtain ⟨u0, hu0⟩ := own_cell ho (j := j * 3) (by omega)
      obtain ⟨u1, hu1⟩ := own_cell ho (j := j * 3 + 1) (by omega)
      obtain ⟨u2, hu2⟩ := own_cell ho (j := j * 3 + 2) (by omega)
      have f0 := ho.frozenAt (j * 3)
      have f1 := ho.frozenAt (j * 3 + 1)
      have f2 := ho.frozenAt (j * 3 + 2)
      have hst := mark_row ho (mk_add3 k (j * 3)) rfl (by omega)
      have hsb := Fr.setCells g (hF g rfl) [.int .i64 (k + ((j * 3 : Nat) : Int)), .int .i64 (k + ((j * 3 : Nat) : Int) + 1), .int .i64 (k + ((j * 3 : Nat) : Int) + 1 + 1)] (j * 3) wr hb
      rw [show j * 3 + 3 = (j + 1) * 3 by omega] at hst
      push_cast at hst hsb ⊢
      go_wp2
      go_roundw
      case rel => exact ⟨j + 1, by omega, by go_num, int_eq (by omega), hst, hsb⟩
      case measure => simp [intOf]; omega
    · have hjn : j = n := by omega
      have e : mk k (j * 3) ++ xs.drop (j * 3) = mk k (n * 3) := by rw [hjn, List.drop_of_length_le (by omega), List.append_nil]
      rw [e] at ho
      clear e
      have hjn := Lib.hid hjn
      go_wp2
      go_ret
      exact ⟨ret_int (by have := hjn.out; omega), ho, hb⟩
def noteOk (x : Note) : Bool := inB x.1 1 3 && inB x.2.1 0 1000000 && inB x.2.2 0 3 && !(x.1 == 3 && x.2.2 != 0)
def goodNotes (l : List Note) : Bool := l.all noteOk && decide (l.length ≤ 3000)
theorem all_take_succ {α : Type} {p : α → Bool} {l : List α} {k : Nat} (h : (l.take k).all p = true) (hk : k < l.length) (hp : p l[k] = true) : (l.take (k + 1)).all p = true := by
  rw [List.take_succ_eq_append_getElem hk, List.all_append, h]; simpa using hp
theorem all_false {α : Type} {p : α → Bool} {l : List α} {k : Nat} (hk : k < l.length) (hp : p l[k] = false) : l.all p = false := by
  rw [List.all_eq_false]; exact ⟨_, List.getElem_mem hk, by simpa using hp⟩

theorem specL11Good (w : World) (lo hi n c : Nat) (A : Option Addr) (l : List Note) (h : Sl noteR w lo hi A n c l) (hh : hi ≤ w.heap.size) :
    Calls Try.prog 75 #[.slice A n c] w (RetB (goodNotes l) w) := by
  have e1 := h.lenEq
  have b1 := h.lenLe
  go_enter Try.func75, Try.ntmps75
  go_wp2
  go_loopw [7] (fun i wr => ∃ k : Nat, k ≤ n ∧ i = .int .i64 k ∧ (l.take k).all noteOk = true ∧ Below w.heap.size w wr) (fun i _ => n - (intOf i).toNat)
  case atStart => exact ⟨0, Nat.zero_le _, rfl, rfl, Below.refl _ _⟩
  case round =>
    obtain ⟨k, hk, rfl, ht0, hb⟩ := hrel
    have ht := Lib.hid ht0
    clear ht0
    by_cases hlt : k < n
    · obtain ⟨b, o, x, y, z, rfl, _, _, hl0, _, _, _, hc1, hc2, hc3⟩ := (h.below hb hh).note_at hlt
      have hok := Lib.hid (fun (hp : noteOk (x, y, z) = true) => all_take_succ (p := noteOk) ht.out (by omega) (by rw [hl0]; exact hp))
      have hno := Lib.hid (fun (hp : noteOk (x, y, z) = false) => all_false (p := noteOk) (l := l) (k := k) (by omega) (by rw [hl0]; exact hp))
      clear hl0
      go_wp2_with (go_at_call 83; refine (specL1In _ _ _ _).mono ?_; rintro e w2 ⟨rfl, rfl⟩)
      all_goals first
        | (go_roundw
           case rel => exact ⟨k + 1, by omega, by go_num, hok.out (by simp_all [noteOk]), by (repeat (first | with_reducible exact Below.refl _ _ | with_reducible assumption | with_reducible refine below_alloc ?_ _ | ((with_reducible refine Below.setCell ?_ ?_ _); rotate_left; (· first | exact Nat.le_refl _ | (simp; done) | (simp; omega))) | with_reducible refine below_drewN ?_ _ | with_reducible refine Below.drew ?_ | with_reducible refine below_then ?_ (by with_reducible assumption)))⟩
           case measure => simp [intOf]; omega)
        | (go_ret
           exact RetB.mk (by rw [goodNotes, hno.out (by simp_all [noteOk])]; rfl) (by (repeat (first | with_reducible exact Below.refl _ _ | with_reducible assumption | with_reducible refine below_alloc ?_ _ | ((with_reducible refine Below.setCell ?_ ?_ _); rotate_left; (· first | exact Nat.le_refl _ | (simp; done) | (simp; omega))) | with_reducible refine below_drewN ?_ _ | with_reducible refine Below.drew ?_ | with_reducible refine below_then ?_ (by with_reducible assumption)))))
    · go_wp2
      go_ret
      exact RetB.mk (by rw [List.take_of_length_le (by omega)] at ht; rw [goodNotes, ht.out, e1]; simp; omega) hb
theorem lawsSzNoteS (w : World) (n c : Nat) (A : Option Addr) (left : Int) (h1 : 0 ≤ left) (h2 : left ≤ 1048576) (hn : n ≤ 9223372036854775807) :
    Calls Try.prog 16 #[.slice A n c, .int .i64 left] w (RetSz left n w) := by
  by_cases h : (n : Int) ≤ left
  · go_enter Try.func16, Try.ntmps16
    go_wp2
    go_ret
    exact ⟨_, rfl, Or.inr ⟨by omega, rfl⟩, Below.refl _ _⟩
  · have hd : decide (left - (n : Int) < 0) = true := by simp; omega
    go_enter Try.func16, Try.ntmps16
    go_wp2
    go_ret
    exact ⟨_, rfl, Or.inl rfl, Below.refl _ _⟩
end Go.Proofs.Ytfilenabhjjidaa
