/- Several texts in one: Notes, AnyNote, TyFrame, AnyFrame, TyVm. -/
import Derived.Test.YtgdeclmciflmpaaGreatKit1
import Derived.Deep.RegionHeld3

/- Notes: the laws' helpers over lists of notes. Walks. -/
set_option linter.unusedVariables false
set_option linter.unusedSimpArgs false
namespace Go.Proofs.YtgdeclmciflmpaaGreat
open Go.RowKit

abbrev Note := Int × Int × Int
def noteR : Rp Note := pairR intR (pairR intR intR)

theorem lawsEqNote (w : World) (a b c a' b' c' : Int) :
    Calls Tryz.prog 61 #[.agg #[.int .i64 a, .int .i64 b, .int .i64 c], .agg #[.int .i64 a', .int .i64 b', .int .i64 c']] w (RetB (eqB (a, b, c) (a', b', c')) w) := by
  go_enter Tryz.func61, Tryz.ntmps61
  go_wp2
  all_goals (go_ret; exact RetB.mk (by simp_all [eqB]) (by exact belA))

theorem Sl.note_at {w : World} {lo hi : Nat} {A : Option Addr} {n c k : Nat} {l : List Note} (h : Sl noteR w lo hi A n c l) (hk : k < n) :
    ∃ b off x y z, A = some ⟨b, off, none⟩ ∧ lo ≤ b ∧ b < hi ∧ l[k]'(by have := h.1; omega) = (x, y, z) ∧ I64 x ∧ I64 y ∧ I64 z ∧
      w.cell? ⟨b, off + k * 3, none⟩ = some (.int .i64 x) ∧ w.cell? ⟨b, off + k * 3 + 1, none⟩ = some (.int .i64 y) ∧
      w.cell? ⟨b, off + k * 3 + 2, none⟩ = some (.int .i64 z) := by
  obtain ⟨b, off, cs, rfl, h1, h2, hr, hc⟩ := h.at_ hk
  obtain ⟨_, _, rfl, ⟨rfl, i1⟩, _, _, rfl, ⟨rfl, i2⟩, ⟨rfl, i3⟩⟩ := hr
  exact ⟨b, off, _, _, _, rfl, h1, h2, rfl, i1, i2, i3, hc 0 (by simp), hc 1 (by simp), hc 2 (by simp)⟩

theorem noteOwn (w : World) (x y z : Int) (i1 : I64 x) (i2 : I64 y) (i3 : I64 z) : noteR.own w [] [.int .i64 x, .int .i64 y, .int .i64 z] (x, y, z) :=
  ⟨[_], [_, _], [], [], rfl, rfl, ⟨rfl, rfl, i1⟩, ⟨[_], [_], [], [], rfl, rfl, ⟨rfl, rfl, i2⟩, ⟨rfl, rfl, i3⟩, by simp⟩, by simp⟩
theorem Note_own (w : World) (x0 x1 x2 : Int) (i0 : I64 x0) (i1 : I64 x1) (i2 : I64 x2) : noteR.own w [] [.int .i64 x0, .int .i64 x1, .int .i64 x2] (x0, x1, x2) := noteOwn w x0 x1 x2 i0 i1 i2
theorem Tryz.infoNote : (Tryz.prog.info? 97).map (fun i => (i.zero, i.size, i.bytes)) = some (some (.agg #[.int .i64 0, .int .i64 0, .int .i64 0]), 3, 24) := by kernel_rfl
theorem lawsEqNoteS (w : World) (lo hi lo' hi' n n' c c' : Nat) (A A' : Option Addr) (l l' : List Note) (h : Sl noteR w lo hi A n c l) (h' : Sl noteR w lo' hi' A' n' c' l') (hh : hi ≤ w.heap.size) (hh' : hi' ≤ w.heap.size) :
    Calls Tryz.prog 30 #[.slice A n c, .slice A' n' c'] w (RetB (eqB l l') w) := by
  have e1 := h.lenEq
  have e2 := h'.lenEq
  have b1 := h.lenLe
  have b2 := h'.lenLe
  by_cases hn : n = n'
  · subst hn
    have hn' : ((n : Int) != (n : Int)) = false := by simp
    go_enter Tryz.func30, Tryz.ntmps30
    go_wp2
    go_loopw [5] (fun i wr => ∃ k : Nat, k ≤ n ∧ i = .int .i64 k ∧ l.take k = l'.take k ∧ Below w.heap.size w wr) (fun i _ => n - (intOf i).toNat)
    case atStart => exact ⟨0, Nat.zero_le _, rfl, rfl, Below.refl _ _⟩
    case round =>
      obtain ⟨k, hk, rfl, ht0, hb⟩ := hrel
      have ht := Lib.hid ht0
      clear ht0
      by_cases hlt : k < n
      · obtain ⟨b, o, x, y, z, rfl, _, _, hl0, _, _, _, hc1, hc2, hc3⟩ := (h.below hb hh).note_at hlt
        obtain ⟨b', o', x', y', z', rfl, _, _, hl0', _, _, _, hc1', hc2', hc3'⟩ := (h'.below hb hh').note_at hlt
        have hl := Lib.hid hl0
        have hl' := Lib.hid hl0'
        clear hl0 hl0'
        have hst := Lib.hid (fun (he : l[k]'(by omega) = l'[k]'(by omega)) => take_eq_snoc ht.out (by omega) (by omega) he)
        have hne := Lib.hid (fun (he : ¬ l[k]'(by omega) = l'[k]'(by omega)) => ne_of_at (by omega) (by omega) he)
        by_cases he0 : (x, y, z) = (x', y', z')
        · have hd := eqB_true he0
          have hs := Lib.hid (hst.out (by rw [hl.out, hl'.out, he0]))
          clear he0
          go_wp2_with fail
          go_region_held3 (fun w' => w'.cell? ⟨b, o + k * 3, none⟩ = some (.int .i64 x) ∧ w'.cell? ⟨b, o + k * 3 + 1, none⟩ = some (.int .i64 y) ∧ w'.cell? ⟨b, o + k * 3 + 2, none⟩ = some (.int .i64 z) ∧ w'.cell? ⟨b', o' + k * 3, none⟩ = some (.int .i64 x') ∧ w'.cell? ⟨b', o' + k * 3 + 1, none⟩ = some (.int .i64 y') ∧ w'.cell? ⟨b', o' + k * 3 + 2, none⟩ = some (.int .i64 z')) (first | exact ⟨hc1, hc2, hc3, hc1', hc2', hc3'⟩ | exact ⟨below_cell hb2 hc1, below_cell hb2 hc2, below_cell hb2 hc3, below_cell hb2 hc1', below_cell hb2 hc2', below_cell hb2 hc3'⟩)
            (first | (go_at_call 61; refine (lawsEqNote _ x y z x' y' z').mono ?_; rintro e w2 ⟨rfl, hb2⟩))
          have hb3 := below_then hb.drew hb2
          go_wp2_with fail
          go_roundw
          case rel => exact ⟨k + 1, by omega, by go_num, hs.out, hb3⟩
          case measure => simp [intOf]; omega
        · have hd := eqB_false he0
          have hs := Lib.hid (eqB_false (hne.out (by rw [hl.out, hl'.out]; exact he0)))
          clear he0
          go_wp2_with fail
          go_region_held3 (fun w' => w'.cell? ⟨b, o + k * 3, none⟩ = some (.int .i64 x) ∧ w'.cell? ⟨b, o + k * 3 + 1, none⟩ = some (.int .i64 y) ∧ w'.cell? ⟨b, o + k * 3 + 2, none⟩ = some (.int .i64 z) ∧ w'.cell? ⟨b', o' + k * 3, none⟩ = some (.int .i64 x') ∧ w'.cell? ⟨b', o' + k * 3 + 1, none⟩ = some (.int .i64 y') ∧ w'.cell? ⟨b', o' + k * 3 + 2, none⟩ = some (.int .i64 z')) (first | exact ⟨hc1, hc2, hc3, hc1', hc2', hc3'⟩ | exact ⟨below_cell hb2 hc1, below_cell hb2 hc2, below_cell hb2 hc3, below_cell hb2 hc1', below_cell hb2 hc2', below_cell hb2 hc3'⟩)
            (first | (go_at_call 61; refine (lawsEqNote _ x y z x' y' z').mono ?_; rintro e w2 ⟨rfl, hb2⟩))
          have hb3 := below_then hb.drew hb2
          go_wp2_with fail
          go_ret
          exact RetB.mk hs.out.symm hb3
      · go_wp2_with fail
        go_ret
        exact RetB.mk (eqB_true (eq_of_takes ht.out (by omega) (by omega))).symm hb
  · have hn' : ((n : Int) != (n' : Int)) = true := by simp; omega
    have hd := Lib.hid (eqB_false (x := l) (y := l') (by rintro rfl; omega))
    go_enter Tryz.func30, Tryz.ntmps30
    go_wp2
    go_ret
    exact RetB.mk hd.out.symm (Below.refl _ _)
theorem lawsMarkNoteS (w : World) (n c : Nat) (A : Option Addr) (xs : List Value) (k : Int) (F : List Nat) (h : w.ownsRow 0 97 3 (.slice A n c) n xs) (hF : ∀ g, A = some ⟨g, 0, none⟩ → g ∈ F) (h1 : 0 ≤ k) (h2 : k ≤ 1152921504606846976) (hn : n ≤ 1152921504606846976) :
    Calls Tryz.prog 34 #[.slice A n c, .int .i64 k] w (RetMark 97 3 n (.slice A n c) k F w) := by
  have hl := h.1
  go_enter Tryz.func34, Tryz.ntmps34
  go_wp2
  go_loopw [1, 5] (fun kk i wr => ∃ j : Nat, j ≤ n ∧ i = .int .i64 j ∧ kk = .int .i64 (k + ((j * 3 : Nat) : Int)) ∧ wr.ownsRow 0 97 3 (.slice A n c) n (mk k (j * 3) ++ xs.drop (j * 3)) ∧ Fr F w wr) (fun _ i _ => n - (intOf i).toNat)
  case atStart => exact ⟨0, Nat.zero_le _, rfl, by simp, by simpa [mk] using h, Fr.refl _ _⟩
  case round =>
    obtain ⟨j, hj, rfl, rfl, ho, hb⟩ := hrel
    by_cases hlt : j < n
    · obtain ⟨_, ⟨rfl, h0, _⟩ | ⟨g, rfl, _⟩⟩ := ownsRow_cases ho
      · omega
      obtain ⟨u0, hu0⟩ := own_cell ho (j := j * 3) (by omega)
      obtain ⟨u1, hu1⟩ := own_cell ho (j := j * 3 + 1) (by omega)
      obtain ⟨u2, hu2⟩ := own_cell ho (j := j * 3 + 2) (by omega)
      have f0 := ho.frozenAt (j * 3)
      have f1 := ho.frozenAt (j * 3 + 1)
      have f2 := ho.frozenAt (j * 3 + 2)
      have hst := mark_row ho (mk_add3 k (j * 3)) rfl (by omega)
      have hsb := Fr.setCells g (hF g rfl) [.int .i64 (k + ((j * 3 : Nat) : Int)), .int .i64 (k + ((j * 3 : Nat) : Int) + 1), .int .i64 (k + ((j * 3 : Nat) : Int) + 1 + 1)] (j * 3) wr hb
      rw [show j * 3 + 3 = (j + 1) * 3 by omega] at hst
      push_cast at hst hsb ⊢
      go_wp2
      go_roundw
      case rel => exact ⟨j + 1, by omega, by go_num, int_eq (by omega), hst, hsb⟩
      case measure => simp [intOf]; omega
    · have hjn : j = n := by omega
      have e : mk k (j * 3) ++ xs.drop (j * 3) = mk k (n * 3) := by rw [hjn, List.drop_of_length_le (by omega), List.append_nil]
      rw [e] at ho
      clear e
      have hjn := Lib.hid hjn
      go_wp2
      go_ret
      exact ⟨ret_int (by have := hjn.out; omega), ho, hb⟩
def noteOk (x : Note) : Bool := inB x.1 1 3 && inB x.2.1 0 1000000 && inB x.2.2 0 3 && !(x.1 == 3 && x.2.2 != 0)
def goodNotes (l : List Note) : Bool := l.all noteOk && decide (l.length ≤ 3000)

end Go.Proofs.YtgdeclmciflmpaaGreat

/- slices.IndexFunc, slices.ContainsFunc over slices of Note. Printed by anygen.py. Walks. -/
set_option linter.unusedVariables false
set_option linter.unusedSimpArgs false
set_option maxRecDepth 100000
namespace Go.Proofs.YtgdeclmciflmpaaGreat
open Go.RowKit

end Go.Proofs.YtgdeclmciflmpaaGreat

/- Frame: how it lies in cells; the laws' own helpers over it. Printed by typegen.py. Walks. -/
set_option linter.unusedVariables false
set_option linter.unusedSimpArgs false
set_option maxRecDepth 100000
namespace Go.Proofs.YtgdeclmciflmpaaGreat
open Go.RowKit

abbrev Frame := Int × Int × Int × List Int × List Int × List Bool × Int × Int × Int × Int × Bool
def FrameR : Rp Frame := pairR intR (pairR intR (pairR intR (pairR (sliceR 3 intR) (pairR (sliceR 3 intR) (pairR (sliceR 4 boolR) (pairR intR (pairR intR (pairR intR (pairR intR (boolR))))))))))
def mszFrame (x : Frame) : Nat := (x.2.2.2.1).length + (x.2.2.2.2.1).length + (x.2.2.2.2.2.1).length
def mszLFrame (l : List Frame) : Nat := l.length + (l.map mszFrame).sum
theorem mszFrame_at {l : List Frame} {k : Nat} (hk : k < l.length) : mszFrame l[k] ≤ mszLFrame l := by have := mem_sum_le (f := mszFrame) (List.getElem_mem hk); unfold mszLFrame; omega
theorem mszLFrame_len (l : List Frame) : l.length ≤ mszLFrame l := by unfold mszLFrame; omega
theorem Frame_rel {w : World} {lo hi : Nat} {cs : List Value} {x : Frame} (h : FrameR.rel w lo hi cs x) : ∃ x0 x1 x2 A3 n3 c3 s3 A4 n4 c4 s4 A5 n5 c5 s5 x6 x7 x8 x9 y10, cs = ([.int .i64 x0, .int .i64 x1, .int .i64 x2, .slice A3 n3 c3, .slice A4 n4 c4, .slice A5 n5 c5, .int .i64 x6, .int .i64 x7, .int .i64 x8, .int .i64 x9, .bool y10] : List Value) ∧ x = (x0, x1, x2, s3, s4, s5, x6, x7, x8, x9, y10) ∧ I64 x0 ∧ I64 x1 ∧ I64 x2 ∧ Sl intR w lo hi A3 n3 c3 s3 ∧ Sl intR w lo hi A4 n4 c4 s4 ∧ Sl boolR w lo hi A5 n5 c5 s5 ∧ I64 x6 ∧ I64 x7 ∧ I64 x8 ∧ I64 x9 := by
  obtain ⟨_, _, rfl, ⟨rfl, i0⟩, _, _, rfl, ⟨rfl, i1⟩, _, _, rfl, ⟨rfl, i2⟩, _, _, rfl, ⟨A3, n3, c3, rfl, h3⟩, _, _, rfl, ⟨A4, n4, c4, rfl, h4⟩, _, _, rfl, ⟨A5, n5, c5, rfl, h5⟩, _, _, rfl, ⟨rfl, i6⟩, _, _, rfl, ⟨rfl, i7⟩, _, _, rfl, ⟨rfl, i8⟩, _, _, rfl, ⟨rfl, i9⟩, ⟨rfl, _⟩⟩ := h
  exact ⟨x.1, x.2.1, x.2.2.1, A3, n3, c3, x.2.2.2.1, A4, n4, c4, x.2.2.2.2.1, A5, n5, c5, x.2.2.2.2.2.1, x.2.2.2.2.2.2.1, x.2.2.2.2.2.2.2.1, x.2.2.2.2.2.2.2.2.1, x.2.2.2.2.2.2.2.2.2.1, x.2.2.2.2.2.2.2.2.2.2, rfl, rfl, i0, i1, i2, h3, h4, h5, i6, i7, i8, i9⟩
theorem Frame_own {w : World} {x0 : Int} {x1 : Int} {x2 : Int} {A3 : Option Addr} {n3 c3 : Nat} {s3 : List Int} {A4 : Option Addr} {n4 c4 : Nat} {s4 : List Int} {A5 : Option Addr} {n5 c5 : Nat} {s5 : List Bool} {x6 : Int} {x7 : Int} {x8 : Int} {x9 : Int} {y10 : Bool} {F3 : List Nat} (o3 : OwnSl intR w 3 F3 (.slice A3 n3 c3) s3) {F4 : List Nat} (o4 : OwnSl intR w 3 F4 (.slice A4 n4 c4) s4) {F5 : List Nat} (o5 : OwnSl boolR w 4 F5 (.slice A5 n5 c5) s5) (i0 : I64 x0) (i1 : I64 x1) (i2 : I64 x2) (i6 : I64 x6) (i7 : I64 x7) (i8 : I64 x8) (i9 : I64 x9) (hF : ((F3 ++ (F4 ++ F5))).Nodup) : FrameR.own w ((F3 ++ (F4 ++ F5))) [.int .i64 x0, .int .i64 x1, .int .i64 x2, .slice A3 n3 c3, .slice A4 n4 c4, .slice A5 n5 c5, .int .i64 x6, .int .i64 x7, .int .i64 x8, .int .i64 x9, .bool y10] (x0, x1, x2, s3, s4, s5, x6, x7, x8, x9, y10) := by
  have hF2 := hF; simp only [List.nodup_append] at hF2
  exact ⟨[_], [_, _, _, _, _, _, _, _, _, _], [], (F3 ++ (F4 ++ F5)), rfl, by simp, ⟨rfl, rfl, i0⟩, ⟨[_], [_, _, _, _, _, _, _, _, _], [], (F3 ++ (F4 ++ F5)), rfl, by simp, ⟨rfl, rfl, i1⟩, ⟨[_], [_, _, _, _, _, _, _, _], [], (F3 ++ (F4 ++ F5)), rfl, by simp, ⟨rfl, rfl, i2⟩, ⟨[_], [_, _, _, _, _, _, _], F3, (F4 ++ F5), rfl, by simp, ⟨A3, n3, c3, rfl, o3⟩, ⟨[_], [_, _, _, _, _, _], F4, F5, rfl, by simp, ⟨A4, n4, c4, rfl, o4⟩, ⟨[_], [_, _, _, _, _], F5, [], rfl, by simp, ⟨A5, n5, c5, rfl, o5⟩, ⟨[_], [_, _, _, _], [], [], rfl, by simp, ⟨rfl, rfl, i6⟩, ⟨[_], [_, _, _], [], [], rfl, by simp, ⟨rfl, rfl, i7⟩, ⟨[_], [_, _], [], [], rfl, by simp, ⟨rfl, rfl, i8⟩, ⟨[_], [_], [], [], rfl, by simp, ⟨rfl, rfl, i9⟩, ⟨rfl, rfl, trivial⟩, by simp_all [List.nodup_append]⟩, by simp_all [List.nodup_append]⟩, by simp_all [List.nodup_append]⟩, by simp_all [List.nodup_append]⟩, by simp_all [List.nodup_append]⟩, by simp_all [List.nodup_append]⟩, by simp_all [List.nodup_append]⟩, by simp_all [List.nodup_append]⟩, by simp_all [List.nodup_append]⟩, by simp_all [List.nodup_append]⟩
theorem Frame_sl3 {w : World} {F : List Nat} {x0 : Int} {x1 : Int} {x2 : Int} {A3 : Option Addr} {n3 c3 : Nat} {s3 : List Int} {A4 : Option Addr} {n4 c4 : Nat} {s4 : List Int} {A5 : Option Addr} {n5 c5 : Nat} {s5 : List Bool} {x6 : Int} {x7 : Int} {x8 : Int} {x9 : Int} {y10 : Bool} (h : FrameR.own w F [.int .i64 x0, .int .i64 x1, .int .i64 x2, .slice A3 n3 c3, .slice A4 n4 c4, .slice A5 n5 c5, .int .i64 x6, .int .i64 x7, .int .i64 x8, .int .i64 x9, .bool y10] (x0, x1, x2, s3, s4, s5, x6, x7, x8, x9, y10)) : Sl intR w 0 w.heap.size A3 n3 c3 s3 := by
  have hr := FrameR.ownRel h (fun k hk => ⟨Nat.zero_le k, FrameR.ownLt h k hk⟩)
  obtain ⟨x0q, x1q, x2q, A3q, n3q, c3q, s3q, A4q, n4q, c4q, s4q, A5q, n5q, c5q, s5q, x6q, x7q, x8q, x9q, y10q, e, hx, i0, i1, i2, h3, h4, h5, i6, i7, i8, i9⟩ := Frame_rel hr
  simp only [List.cons.injEq, Value.slice.injEq, Value.int.injEq, Value.bool.injEq, and_true, true_and, Prod.mk.injEq] at e hx
  simp only [e, hx]; exact h3
theorem Frame_sl4 {w : World} {F : List Nat} {x0 : Int} {x1 : Int} {x2 : Int} {A3 : Option Addr} {n3 c3 : Nat} {s3 : List Int} {A4 : Option Addr} {n4 c4 : Nat} {s4 : List Int} {A5 : Option Addr} {n5 c5 : Nat} {s5 : List Bool} {x6 : Int} {x7 : Int} {x8 : Int} {x9 : Int} {y10 : Bool} (h : FrameR.own w F [.int .i64 x0, .int .i64 x1, .int .i64 x2, .slice A3 n3 c3, .slice A4 n4 c4, .slice A5 n5 c5, .int .i64 x6, .int .i64 x7, .int .i64 x8, .int .i64 x9, .bool y10] (x0, x1, x2, s3, s4, s5, x6, x7, x8, x9, y10)) : Sl intR w 0 w.heap.size A4 n4 c4 s4 := by
  have hr := FrameR.ownRel h (fun k hk => ⟨Nat.zero_le k, FrameR.ownLt h k hk⟩)
  obtain ⟨x0q, x1q, x2q, A3q, n3q, c3q, s3q, A4q, n4q, c4q, s4q, A5q, n5q, c5q, s5q, x6q, x7q, x8q, x9q, y10q, e, hx, i0, i1, i2, h3, h4, h5, i6, i7, i8, i9⟩ := Frame_rel hr
  simp only [List.cons.injEq, Value.slice.injEq, Value.int.injEq, Value.bool.injEq, and_true, true_and, Prod.mk.injEq] at e hx
  simp only [e, hx]; exact h4
theorem Frame_sl5 {w : World} {F : List Nat} {x0 : Int} {x1 : Int} {x2 : Int} {A3 : Option Addr} {n3 c3 : Nat} {s3 : List Int} {A4 : Option Addr} {n4 c4 : Nat} {s4 : List Int} {A5 : Option Addr} {n5 c5 : Nat} {s5 : List Bool} {x6 : Int} {x7 : Int} {x8 : Int} {x9 : Int} {y10 : Bool} (h : FrameR.own w F [.int .i64 x0, .int .i64 x1, .int .i64 x2, .slice A3 n3 c3, .slice A4 n4 c4, .slice A5 n5 c5, .int .i64 x6, .int .i64 x7, .int .i64 x8, .int .i64 x9, .bool y10] (x0, x1, x2, s3, s4, s5, x6, x7, x8, x9, y10)) : Sl boolR w 0 w.heap.size A5 n5 c5 s5 := by
  have hr := FrameR.ownRel h (fun k hk => ⟨Nat.zero_le k, FrameR.ownLt h k hk⟩)
  obtain ⟨x0q, x1q, x2q, A3q, n3q, c3q, s3q, A4q, n4q, c4q, s4q, A5q, n5q, c5q, s5q, x6q, x7q, x8q, x9q, y10q, e, hx, i0, i1, i2, h3, h4, h5, i6, i7, i8, i9⟩ := Frame_rel hr
  simp only [List.cons.injEq, Value.slice.injEq, Value.int.injEq, Value.bool.injEq, and_true, true_and, Prod.mk.injEq] at e hx
  simp only [e, hx]; exact h5
theorem Frame_at {w : World} {lo hi : Nat} {A : Option Addr} {n c k : Nat} {l : List Frame} (h : Sl FrameR w lo hi A n c l) (hk : k < n) :
    ∃ b off x0 x1 x2 A3 n3 c3 s3 A4 n4 c4 s4 A5 n5 c5 s5 x6 x7 x8 x9 y10, A = some ⟨b, off, none⟩ ∧ lo ≤ b ∧ b < hi ∧ l[k]'(by have := h.1; omega) = (x0, x1, x2, s3, s4, s5, x6, x7, x8, x9, y10) ∧ I64 x0 ∧ I64 x1 ∧ I64 x2 ∧ Sl intR w lo hi A3 n3 c3 s3 ∧ Sl intR w lo hi A4 n4 c4 s4 ∧ Sl boolR w lo hi A5 n5 c5 s5 ∧ I64 x6 ∧ I64 x7 ∧ I64 x8 ∧ I64 x9 ∧ w.cell? ⟨b, off + k * 11, none⟩ = some (.int .i64 x0) ∧ w.cell? ⟨b, off + k * 11 + 1, none⟩ = some (.int .i64 x1) ∧ w.cell? ⟨b, off + k * 11 + 2, none⟩ = some (.int .i64 x2) ∧ w.cell? ⟨b, off + k * 11 + 3, none⟩ = some (.slice A3 n3 c3) ∧ w.cell? ⟨b, off + k * 11 + 4, none⟩ = some (.slice A4 n4 c4) ∧ w.cell? ⟨b, off + k * 11 + 5, none⟩ = some (.slice A5 n5 c5) ∧ w.cell? ⟨b, off + k * 11 + 6, none⟩ = some (.int .i64 x6) ∧ w.cell? ⟨b, off + k * 11 + 7, none⟩ = some (.int .i64 x7) ∧ w.cell? ⟨b, off + k * 11 + 8, none⟩ = some (.int .i64 x8) ∧ w.cell? ⟨b, off + k * 11 + 9, none⟩ = some (.int .i64 x9) ∧ w.cell? ⟨b, off + k * 11 + 10, none⟩ = some (.bool y10) := by
  obtain ⟨b, off, cs, rfl, hb1, hb2, hr, hc⟩ := h.at_ hk
  obtain ⟨x0, x1, x2, A3, n3, c3, s3, A4, n4, c4, s4, A5, n5, c5, s5, x6, x7, x8, x9, y10, rfl, hx, i0, i1, i2, h3, h4, h5, i6, i7, i8, i9⟩ := Frame_rel hr
  exact ⟨b, off, x0, x1, x2, A3, n3, c3, s3, A4, n4, c4, s4, A5, n5, c5, s5, x6, x7, x8, x9, y10, rfl, hb1, hb2, hx, i0, i1, i2, h3, h4, h5, i6, i7, i8, i9, hc 0 (by simp), hc 1 (by simp), hc 2 (by simp), hc 3 (by simp), hc 4 (by simp), hc 5 (by simp), hc 6 (by simp), hc 7 (by simp), hc 8 (by simp), hc 9 (by simp), hc 10 (by simp)⟩
theorem lawsEqFrame (w : World) (lo hi lo' hi' : Nat) (x0 : Int) (x1 : Int) (x2 : Int) (A3 : Option Addr) (n3 c3 : Nat) (s3 : List Int) (A4 : Option Addr) (n4 c4 : Nat) (s4 : List Int) (A5 : Option Addr) (n5 c5 : Nat) (s5 : List Bool) (x6 : Int) (x7 : Int) (x8 : Int) (x9 : Int) (y10 : Bool) (x0' : Int) (x1' : Int) (x2' : Int) (A3' : Option Addr) (n3' c3' : Nat) (s3' : List Int) (A4' : Option Addr) (n4' c4' : Nat) (s4' : List Int) (A5' : Option Addr) (n5' c5' : Nat) (s5' : List Bool) (x6' : Int) (x7' : Int) (x8' : Int) (x9' : Int) (y10' : Bool) (h3 : Sl intR w lo hi A3 n3 c3 s3) (h4 : Sl intR w lo hi A4 n4 c4 s4) (h5 : Sl boolR w lo hi A5 n5 c5 s5) (h3' : Sl intR w lo' hi' A3' n3' c3' s3') (h4' : Sl intR w lo' hi' A4' n4' c4' s4') (h5' : Sl boolR w lo' hi' A5' n5' c5' s5') (hh : hi ≤ w.heap.size) (hh' : hi' ≤ w.heap.size) :
    Calls Tryz.prog 60 #[.agg #[.int .i64 x0, .int .i64 x1, .int .i64 x2, .slice A3 n3 c3, .slice A4 n4 c4, .slice A5 n5 c5, .int .i64 x6, .int .i64 x7, .int .i64 x8, .int .i64 x9, .bool y10], .agg #[.int .i64 x0', .int .i64 x1', .int .i64 x2', .slice A3' n3' c3', .slice A4' n4' c4', .slice A5' n5' c5', .int .i64 x6', .int .i64 x7', .int .i64 x8', .int .i64 x9', .bool y10']] w (RetB (eqB (x0, x1, x2, s3, s4, s5, x6, x7, x8, x9, y10) (x0', x1', x2', s3', s4', s5', x6', x7', x8', x9', y10')) w) := by
  go_enter Tryz.func60, Tryz.ntmps60
  go_wp2_with fail
  all_goals try (go_ret; exact RetB.mk (by simp_all [eqB]) (by exact belA))
  refine (lawsEqIntS _ lo hi lo' hi' n3 n3' c3 c3' A3 A3' s3 s3' (h3.below (B := w.heap.size) (by exact belA) hh) (h3'.below (B := w.heap.size) (by exact belA) hh') (by first | omega | (simp; omega)) (by first | omega | (simp; omega))).mono ?_
  rintro e w3 ⟨rfl, b3⟩
  obtain ⟨hc3, hf3⟩ := bcell b3
  have hz3 := b3.size
  try simp at hz3
  have hv3 : w.heap.size < w3.heap.size := by omega
  have hx3 : w.heap.size + 1 < w3.heap.size := by omega
  go_wp2_with fail
  all_goals try (go_ret; exact RetB.mk (by simp_all [eqB]) (by exact belA))
  refine (lawsEqIntS _ lo hi lo' hi' n4 n4' c4 c4' A4 A4' s4 s4' (h4.below (B := w.heap.size) (by exact belA) hh) (h4'.below (B := w.heap.size) (by exact belA) hh') (by first | omega | (simp; omega)) (by first | omega | (simp; omega))).mono ?_
  rintro e w4 ⟨rfl, b4⟩
  obtain ⟨hc4, hf4⟩ := bcell b4
  have hz4 := b4.size
  try simp at hz4
  have hv4 : w.heap.size < w4.heap.size := by omega
  have hx4 : w.heap.size + 1 < w4.heap.size := by omega
  go_wp2_with fail
  all_goals try (go_ret; exact RetB.mk (by simp_all [eqB]) (by exact belA))
  refine (lawsEqBoolS _ lo hi lo' hi' n5 n5' c5 c5' A5 A5' s5 s5' (h5.below (B := w.heap.size) (by exact belA) hh) (h5'.below (B := w.heap.size) (by exact belA) hh') (by first | omega | (simp; omega)) (by first | omega | (simp; omega))).mono ?_
  rintro e w5 ⟨rfl, b5⟩
  obtain ⟨hc5, hf5⟩ := bcell b5
  have hz5 := b5.size
  try simp at hz5
  have hv5 : w.heap.size < w5.heap.size := by omega
  have hx5 : w.heap.size + 1 < w5.heap.size := by omega
  go_wp2_with fail
  all_goals (go_ret; exact RetB.mk (by simp_all [eqB]) (by exact belA))
theorem lawsEqFrameS (w : World) (lo hi lo' hi' n n' c c' : Nat) (A A' : Option Addr) (l l' : List Frame) (h : Sl FrameR w lo hi A n c l) (h' : Sl FrameR w lo' hi' A' n' c' l') (hh : hi ≤ w.heap.size) (hh' : hi' ≤ w.heap.size) :
    Calls Tryz.prog 29 #[.slice A n c, .slice A' n' c'] w (RetB (eqB l l') w) := by
  have e1 := h.lenEq
  have e2 := h'.lenEq
  have b1 := h.lenLe
  have b2 := h'.lenLe
  by_cases hn : n = n'
  · subst hn
    have hn' : ((n : Int) != (n : Int)) = false := by simp
    go_enter Tryz.func29, Tryz.ntmps29
    go_wp2
    go_loopw [5] (fun i wr => ∃ k : Nat, k ≤ n ∧ i = .int .i64 k ∧ l.take k = l'.take k ∧ Below w.heap.size w wr) (fun i _ => n - (intOf i).toNat)
    case atStart => exact ⟨0, Nat.zero_le _, rfl, rfl, Below.refl _ _⟩
    case round =>
      obtain ⟨k, hk, rfl, ht0, hb⟩ := hrel
      have ht := Lib.hid ht0
      clear ht0
      have hbs := hb.size
      by_cases hlt : k < n
      · obtain ⟨b, o, x0, x1, x2, A3, n3, c3, s3, A4, n4, c4, s4, A5, n5, c5, s5, x6, x7, x8, x9, y10, rfl, _, _, hl0, i0, i1, i2, h3, h4, h5, i6, i7, i8, i9, d0, d1, d2, d3, d4, d5, d6, d7, d8, d9, d10⟩ := Frame_at (h.below hb hh) hlt
        obtain ⟨b', o', x0', x1', x2', A3', n3', c3', s3', A4', n4', c4', s4', A5', n5', c5', s5', x6', x7', x8', x9', y10', rfl, _, _, hl0', i0', i1', i2', h3', h4', h5', i6', i7', i8', i9', d0', d1', d2', d3', d4', d5', d6', d7', d8', d9', d10'⟩ := Frame_at (h'.below hb hh') hlt
        have hl := Lib.hid hl0
        have hl' := Lib.hid hl0'
        clear hl0 hl0'
        have hst := Lib.hid (fun (he : l[k]'(by omega) = l'[k]'(by omega)) => take_eq_snoc ht.out (by omega) (by omega) he)
        have hne := Lib.hid (fun (he : ¬ l[k]'(by omega) = l'[k]'(by omega)) => ne_of_at (by omega) (by omega) he)
        by_cases he0 : (x0, x1, x2, s3, s4, s5, x6, x7, x8, x9, y10) = (x0', x1', x2', s3', s4', s5', x6', x7', x8', x9', y10')
        · have hd := eqB_true he0
          have hs := Lib.hid (hst.out (by rw [hl.out, hl'.out, he0]))
          clear he0
          go_wp2_with fail
          go_region_held3 (fun w' => w'.cell? ⟨b, o + k * 11, none⟩ = some (.int .i64 x0) ∧ w'.cell? ⟨b, o + k * 11 + 1, none⟩ = some (.int .i64 x1) ∧ w'.cell? ⟨b, o + k * 11 + 2, none⟩ = some (.int .i64 x2) ∧ w'.cell? ⟨b, o + k * 11 + 3, none⟩ = some (.slice A3 n3 c3) ∧ w'.cell? ⟨b, o + k * 11 + 4, none⟩ = some (.slice A4 n4 c4) ∧ w'.cell? ⟨b, o + k * 11 + 5, none⟩ = some (.slice A5 n5 c5) ∧ w'.cell? ⟨b, o + k * 11 + 6, none⟩ = some (.int .i64 x6) ∧ w'.cell? ⟨b, o + k * 11 + 7, none⟩ = some (.int .i64 x7) ∧ w'.cell? ⟨b, o + k * 11 + 8, none⟩ = some (.int .i64 x8) ∧ w'.cell? ⟨b, o + k * 11 + 9, none⟩ = some (.int .i64 x9) ∧ w'.cell? ⟨b, o + k * 11 + 10, none⟩ = some (.bool y10) ∧ w'.cell? ⟨b', o' + k * 11, none⟩ = some (.int .i64 x0') ∧ w'.cell? ⟨b', o' + k * 11 + 1, none⟩ = some (.int .i64 x1') ∧ w'.cell? ⟨b', o' + k * 11 + 2, none⟩ = some (.int .i64 x2') ∧ w'.cell? ⟨b', o' + k * 11 + 3, none⟩ = some (.slice A3' n3' c3') ∧ w'.cell? ⟨b', o' + k * 11 + 4, none⟩ = some (.slice A4' n4' c4') ∧ w'.cell? ⟨b', o' + k * 11 + 5, none⟩ = some (.slice A5' n5' c5') ∧ w'.cell? ⟨b', o' + k * 11 + 6, none⟩ = some (.int .i64 x6') ∧ w'.cell? ⟨b', o' + k * 11 + 7, none⟩ = some (.int .i64 x7') ∧ w'.cell? ⟨b', o' + k * 11 + 8, none⟩ = some (.int .i64 x8') ∧ w'.cell? ⟨b', o' + k * 11 + 9, none⟩ = some (.int .i64 x9') ∧ w'.cell? ⟨b', o' + k * 11 + 10, none⟩ = some (.bool y10')) (first | exact ⟨d0, d1, d2, d3, d4, d5, d6, d7, d8, d9, d10, d0', d1', d2', d3', d4', d5', d6', d7', d8', d9', d10'⟩ | exact ⟨below_cell hb2 d0, below_cell hb2 d1, below_cell hb2 d2, below_cell hb2 d3, below_cell hb2 d4, below_cell hb2 d5, below_cell hb2 d6, below_cell hb2 d7, below_cell hb2 d8, below_cell hb2 d9, below_cell hb2 d10, below_cell hb2 d0', below_cell hb2 d1', below_cell hb2 d2', below_cell hb2 d3', below_cell hb2 d4', below_cell hb2 d5', below_cell hb2 d6', below_cell hb2 d7', below_cell hb2 d8', below_cell hb2 d9', below_cell hb2 d10'⟩)
            (first | (go_at_call 60; refine (lawsEqFrame _ lo hi lo' hi' x0 x1 x2 A3 n3 c3 s3 A4 n4 c4 s4 A5 n5 c5 s5 x6 x7 x8 x9 y10 x0' x1' x2' A3' n3' c3' s3' A4' n4' c4' s4' A5' n5' c5' s5' x6' x7' x8' x9' y10' h3.drew h4.drew h5.drew h3'.drew h4'.drew h5'.drew (by first | omega | (simp; omega)) (by first | omega | (simp; omega))).mono ?_; rintro e w2 ⟨rfl, hb2⟩))
          have hb3 := below_then hb.drew hb2
          go_wp2_with fail
          go_roundw
          case rel => exact ⟨k + 1, by omega, by go_num, hs.out, hb3⟩
          case measure => simp [intOf]; omega
        · have hd := eqB_false he0
          have hs := Lib.hid (eqB_false (hne.out (by rw [hl.out, hl'.out]; exact he0)))
          clear he0
          go_wp2_with fail
          go_region_held3 (fun w' => w'.cell? ⟨b, o + k * 11, none⟩ = some (.int .i64 x0) ∧ w'.cell? ⟨b, o + k * 11 + 1, none⟩ = some (.int .i64 x1) ∧ w'.cell? ⟨b, o + k * 11 + 2, none⟩ = some (.int .i64 x2) ∧ w'.cell? ⟨b, o + k * 11 + 3, none⟩ = some (.slice A3 n3 c3) ∧ w'.cell? ⟨b, o + k * 11 + 4, none⟩ = some (.slice A4 n4 c4) ∧ w'.cell? ⟨b, o + k * 11 + 5, none⟩ = some (.slice A5 n5 c5) ∧ w'.cell? ⟨b, o + k * 11 + 6, none⟩ = some (.int .i64 x6) ∧ w'.cell? ⟨b, o + k * 11 + 7, none⟩ = some (.int .i64 x7) ∧ w'.cell? ⟨b, o + k * 11 + 8, none⟩ = some (.int .i64 x8) ∧ w'.cell? ⟨b, o + k * 11 + 9, none⟩ = some (.int .i64 x9) ∧ w'.cell? ⟨b, o + k * 11 + 10, none⟩ = some (.bool y10) ∧ w'.cell? ⟨b', o' + k * 11, none⟩ = some (.int .i64 x0') ∧ w'.cell? ⟨b', o' + k * 11 + 1, none⟩ = some (.int .i64 x1') ∧ w'.cell? ⟨b', o' + k * 11 + 2, none⟩ = some (.int .i64 x2') ∧ w'.cell? ⟨b', o' + k * 11 + 3, none⟩ = some (.slice A3' n3' c3') ∧ w'.cell? ⟨b', o' + k * 11 + 4, none⟩ = some (.slice A4' n4' c4') ∧ w'.cell? ⟨b', o' + k * 11 + 5, none⟩ = some (.slice A5' n5' c5') ∧ w'.cell? ⟨b', o' + k * 11 + 6, none⟩ = some (.int .i64 x6') ∧ w'.cell? ⟨b', o' + k * 11 + 7, none⟩ = some (.int .i64 x7') ∧ w'.cell? ⟨b', o' + k * 11 + 8, none⟩ = some (.int .i64 x8') ∧ w'.cell? ⟨b', o' + k * 11 + 9, none⟩ = some (.int .i64 x9') ∧ w'.cell? ⟨b', o' + k * 11 + 10, none⟩ = some (.bool y10')) (first | exact ⟨d0, d1, d2, d3, d4, d5, d6, d7, d8, d9, d10, d0', d1', d2', d3', d4', d5', d6', d7', d8', d9', d10'⟩ | exact ⟨below_cell hb2 d0, below_cell hb2 d1, below_cell hb2 d2, below_cell hb2 d3, below_cell hb2 d4, below_cell hb2 d5, below_cell hb2 d6, below_cell hb2 d7, below_cell hb2 d8, below_cell hb2 d9, below_cell hb2 d10, below_cell hb2 d0', below_cell hb2 d1', below_cell hb2 d2', below_cell hb2 d3', below_cell hb2 d4', below_cell hb2 d5', below_cell hb2 d6', below_cell hb2 d7', below_cell hb2 d8', below_cell hb2 d9', below_cell hb2 d10'⟩)
            (first | (go_at_call 60; refine (lawsEqFrame _ lo hi lo' hi' x0 x1 x2 A3 n3 c3 s3 A4 n4 c4 s4 A5 n5 c5 s5 x6 x7 x8 x9 y10 x0' x1' x2' A3' n3' c3' s3' A4' n4' c4' s4' A5' n5' c5' s5' x6' x7' x8' x9' y10' h3.drew h4.drew h5.drew h3'.drew h4'.drew h5'.drew (by first | omega | (simp; omega)) (by first | omega | (simp; omega))).mono ?_; rintro e w2 ⟨rfl, hb2⟩))
          have hb3 := below_then hb.drew hb2
          go_wp2_with fail
          go_ret
          exact RetB.mk hs.out.symm hb3
      · go_wp2_with fail
        go_ret
        exact RetB.mk (eqB_true (eq_of_takes ht.out (by omega) (by omega))).symm hb
  · have hn' : ((n : Int) != (n' : Int)) = true := by simp; omega
    have hd := Lib.hid (eqB_false (x := l) (y := l') (by rintro rfl; omega))
    go_enter Tryz.func29, Tryz.ntmps29
    go_wp2
    go_ret
    exact RetB.mk hd.out.symm (Below.refl _ _)
end Go.Proofs.YtgdeclmciflmpaaGreat

/- slices.IndexFunc, slices.ContainsFunc over slices of Frame. Printed by anygen.py. Walks. -/
set_option linter.unusedVariables false
set_option linter.unusedSimpArgs false
set_option maxRecDepth 100000
namespace Go.Proofs.YtgdeclmciflmpaaGreat
open Go.RowKit

end Go.Proofs.YtgdeclmciflmpaaGreat

/- Vm: how it lies in cells; the laws' own helpers over it. Printed by typegen.py. Walks. -/
set_option linter.unusedVariables false
set_option linter.unusedSimpArgs false
set_option maxRecDepth 100000
namespace Go.Proofs.YtgdeclmciflmpaaGreat
open Go.RowKit

abbrev Vm := List Frame × List Int × Int × Int × Int × Int × List Note
def VmR : Rp Vm := pairR (sliceR 74 FrameR) (pairR (sliceR 3 intR) (pairR intR (pairR intR (pairR intR (pairR intR (sliceR 97 noteR))))))
def mszVm (x : Vm) : Nat := mszLFrame x.1 + (x.2.1).length + (x.2.2.2.2.2.2).length
def mszLVm (l : List Vm) : Nat := l.length + (l.map mszVm).sum
theorem mszVm_at {l : List Vm} {k : Nat} (hk : k < l.length) : mszVm l[k] ≤ mszLVm l := by have := mem_sum_le (f := mszVm) (List.getElem_mem hk); unfold mszLVm; omega
theorem mszLVm_len (l : List Vm) : l.length ≤ mszLVm l := by unfold mszLVm; omega
theorem Vm_rel {w : World} {lo hi : Nat} {cs : List Value} {x : Vm} (h : VmR.rel w lo hi cs x) : ∃ A0 n0 c0 s0 A1 n1 c1 s1 x2 x3 x4 x5 A6 n6 c6 s6, cs = ([.slice A0 n0 c0, .slice A1 n1 c1, .int .i64 x2, .int .i64 x3, .int .i64 x4, .int .i64 x5, .slice A6 n6 c6] : List Value) ∧ x = (s0, s1, x2, x3, x4, x5, s6) ∧ Sl FrameR w lo hi A0 n0 c0 s0 ∧ Sl intR w lo hi A1 n1 c1 s1 ∧ I64 x2 ∧ I64 x3 ∧ I64 x4 ∧ I64 x5 ∧ Sl noteR w lo hi A6 n6 c6 s6 := by
  obtain ⟨_, _, rfl, ⟨A0, n0, c0, rfl, h0⟩, _, _, rfl, ⟨A1, n1, c1, rfl, h1⟩, _, _, rfl, ⟨rfl, i2⟩, _, _, rfl, ⟨rfl, i3⟩, _, _, rfl, ⟨rfl, i4⟩, _, _, rfl, ⟨rfl, i5⟩, ⟨A6, n6, c6, rfl, h6⟩⟩ := h
  exact ⟨A0, n0, c0, x.1, A1, n1, c1, x.2.1, x.2.2.1, x.2.2.2.1, x.2.2.2.2.1, x.2.2.2.2.2.1, A6, n6, c6, x.2.2.2.2.2.2, rfl, rfl, h0, h1, i2, i3, i4, i5, h6⟩
theorem Vm_own {w : World} {A0 : Option Addr} {n0 c0 : Nat} {s0 : List Frame} {A1 : Option Addr} {n1 c1 : Nat} {s1 : List Int} {x2 : Int} {x3 : Int} {x4 : Int} {x5 : Int} {A6 : Option Addr} {n6 c6 : Nat} {s6 : List Note} {F0 : List Nat} (o0 : OwnSl FrameR w 74 F0 (.slice A0 n0 c0) s0) {F1 : List Nat} (o1 : OwnSl intR w 3 F1 (.slice A1 n1 c1) s1) {F6 : List Nat} (o6 : OwnSl noteR w 97 F6 (.slice A6 n6 c6) s6) (i2 : I64 x2) (i3 : I64 x3) (i4 : I64 x4) (i5 : I64 x5) (hF : ((F0 ++ (F1 ++ F6))).Nodup) : VmR.own w ((F0 ++ (F1 ++ F6))) [.slice A0 n0 c0, .slice A1 n1 c1, .int .i64 x2, .int .i64 x3, .int .i64 x4, .int .i64 x5, .slice A6 n6 c6] (s0, s1, x2, x3, x4, x5, s6) := by
  have hF2 := hF; simp only [List.nodup_append] at hF2
  exact ⟨[_], [_, _, _, _, _, _], F0, (F1 ++ F6), rfl, by simp, ⟨A0, n0, c0, rfl, o0⟩, ⟨[_], [_, _, _, _, _], F1, F6, rfl, by simp, ⟨A1, n1, c1, rfl, o1⟩, ⟨[_], [_, _, _, _], [], F6, rfl, by simp, ⟨rfl, rfl, i2⟩, ⟨[_], [_, _, _], [], F6, rfl, by simp, ⟨rfl, rfl, i3⟩, ⟨[_], [_, _], [], F6, rfl, by simp, ⟨rfl, rfl, i4⟩, ⟨[_], [_], [], F6, rfl, by simp, ⟨rfl, rfl, i5⟩, ⟨A6, n6, c6, rfl, o6⟩, by simp_all [List.nodup_append]⟩, by simp_all [List.nodup_append]⟩, by simp_all [List.nodup_append]⟩, by simp_all [List.nodup_append]⟩, by simp_all [List.nodup_append]⟩, by simp_all [List.nodup_append]⟩
theorem Vm_sl0 {w : World} {F : List Nat} {A0 : Option Addr} {n0 c0 : Nat} {s0 : List Frame} {A1 : Option Addr} {n1 c1 : Nat} {s1 : List Int} {x2 : Int} {x3 : Int} {x4 : Int} {x5 : Int} {A6 : Option Addr} {n6 c6 : Nat} {s6 : List Note} (h : VmR.own w F [.slice A0 n0 c0, .slice A1 n1 c1, .int .i64 x2, .int .i64 x3, .int .i64 x4, .int .i64 x5, .slice A6 n6 c6] (s0, s1, x2, x3, x4, x5, s6)) : Sl FrameR w 0 w.heap.size A0 n0 c0 s0 := by
  have hr := VmR.ownRel h (fun k hk => ⟨Nat.zero_le k, VmR.ownLt h k hk⟩)
  obtain ⟨A0q, n0q, c0q, s0q, A1q, n1q, c1q, s1q, x2q, x3q, x4q, x5q, A6q, n6q, c6q, s6q, e, hx, h0, h1, i2, i3, i4, i5, h6⟩ := Vm_rel hr
  simp only [List.cons.injEq, Value.slice.injEq, Value.int.injEq, Value.bool.injEq, and_true, true_and, Prod.mk.injEq] at e hx
  simp only [e, hx]; exact h0
theorem Vm_sl1 {w : World} {F : List Nat} {A0 : Option Addr} {n0 c0 : Nat} {s0 : List Frame} {A1 : Option Addr} {n1 c1 : Nat} {s1 : List Int} {x2 : Int} {x3 : Int} {x4 : Int} {x5 : Int} {A6 : Option Addr} {n6 c6 : Nat} {s6 : List Note} (h : VmR.own w F [.slice A0 n0 c0, .slice A1 n1 c1, .int .i64 x2, .int .i64 x3, .int .i64 x4, .int .i64 x5, .slice A6 n6 c6] (s0, s1, x2, x3, x4, x5, s6)) : Sl intR w 0 w.heap.size A1 n1 c1 s1 := by
  have hr := VmR.ownRel h (fun k hk => ⟨Nat.zero_le k, VmR.ownLt h k hk⟩)
  obtain ⟨A0q, n0q, c0q, s0q, A1q, n1q, c1q, s1q, x2q, x3q, x4q, x5q, A6q, n6q, c6q, s6q, e, hx, h0, h1, i2, i3, i4, i5, h6⟩ := Vm_rel hr
  simp only [List.cons.injEq, Value.slice.injEq, Value.int.injEq, Value.bool.injEq, and_true, true_and, Prod.mk.injEq] at e hx
  simp only [e, hx]; exact h1
theorem Vm_sl6 {w : World} {F : List Nat} {A0 : Option Addr} {n0 c0 : Nat} {s0 : List Frame} {A1 : Option Addr} {n1 c1 : Nat} {s1 : List Int} {x2 : Int} {x3 : Int} {x4 : Int} {x5 : Int} {A6 : Option Addr} {n6 c6 : Nat} {s6 : List Note} (h : VmR.own w F [.slice A0 n0 c0, .slice A1 n1 c1, .int .i64 x2, .int .i64 x3, .int .i64 x4, .int .i64 x5, .slice A6 n6 c6] (s0, s1, x2, x3, x4, x5, s6)) : Sl noteR w 0 w.heap.size A6 n6 c6 s6 := by
  have hr := VmR.ownRel h (fun k hk => ⟨Nat.zero_le k, VmR.ownLt h k hk⟩)
  obtain ⟨A0q, n0q, c0q, s0q, A1q, n1q, c1q, s1q, x2q, x3q, x4q, x5q, A6q, n6q, c6q, s6q, e, hx, h0, h1, i2, i3, i4, i5, h6⟩ := Vm_rel hr
  simp only [List.cons.injEq, Value.slice.injEq, Value.int.injEq, Value.bool.injEq, and_true, true_and, Prod.mk.injEq] at e hx
  simp only [e, hx]; exact h6
theorem Vm_at {w : World} {lo hi : Nat} {A : Option Addr} {n c k : Nat} {l : List Vm} (h : Sl VmR w lo hi A n c l) (hk : k < n) :
    ∃ b off A0 n0 c0 s0 A1 n1 c1 s1 x2 x3 x4 x5 A6 n6 c6 s6, A = some ⟨b, off, none⟩ ∧ lo ≤ b ∧ b < hi ∧ l[k]'(by have := h.1; omega) = (s0, s1, x2, x3, x4, x5, s6) ∧ Sl FrameR w lo hi A0 n0 c0 s0 ∧ Sl intR w lo hi A1 n1 c1 s1 ∧ I64 x2 ∧ I64 x3 ∧ I64 x4 ∧ I64 x5 ∧ Sl noteR w lo hi A6 n6 c6 s6 ∧ w.cell? ⟨b, off + k * 7, none⟩ = some (.slice A0 n0 c0) ∧ w.cell? ⟨b, off + k * 7 + 1, none⟩ = some (.slice A1 n1 c1) ∧ w.cell? ⟨b, off + k * 7 + 2, none⟩ = some (.int .i64 x2) ∧ w.cell? ⟨b, off + k * 7 + 3, none⟩ = some (.int .i64 x3) ∧ w.cell? ⟨b, off + k * 7 + 4, none⟩ = some (.int .i64 x4) ∧ w.cell? ⟨b, off + k * 7 + 5, none⟩ = some (.int .i64 x5) ∧ w.cell? ⟨b, off + k * 7 + 6, none⟩ = some (.slice A6 n6 c6) := by
  obtain ⟨b, off, cs, rfl, hb1, hb2, hr, hc⟩ := h.at_ hk
  obtain ⟨A0, n0, c0, s0, A1, n1, c1, s1, x2, x3, x4, x5, A6, n6, c6, s6, rfl, hx, h0, h1, i2, i3, i4, i5, h6⟩ := Vm_rel hr
  exact ⟨b, off, A0, n0, c0, s0, A1, n1, c1, s1, x2, x3, x4, x5, A6, n6, c6, s6, rfl, hb1, hb2, hx, h0, h1, i2, i3, i4, i5, h6, hc 0 (by simp), hc 1 (by simp), hc 2 (by simp), hc 3 (by simp), hc 4 (by simp), hc 5 (by simp), hc 6 (by simp)⟩
theorem lawsEqVm (w : World) (lo hi lo' hi' : Nat) (A0 : Option Addr) (n0 c0 : Nat) (s0 : List Frame) (A1 : Option Addr) (n1 c1 : Nat) (s1 : List Int) (x2 : Int) (x3 : Int) (x4 : Int) (x5 : Int) (A6 : Option Addr) (n6 c6 : Nat) (s6 : List Note) (A0' : Option Addr) (n0' c0' : Nat) (s0' : List Frame) (A1' : Option Addr) (n1' c1' : Nat) (s1' : List Int) (x2' : Int) (x3' : Int) (x4' : Int) (x5' : Int) (A6' : Option Addr) (n6' c6' : Nat) (s6' : List Note) (h0 : Sl FrameR w lo hi A0 n0 c0 s0) (h1 : Sl intR w lo hi A1 n1 c1 s1) (h6 : Sl noteR w lo hi A6 n6 c6 s6) (h0' : Sl FrameR w lo' hi' A0' n0' c0' s0') (h1' : Sl intR w lo' hi' A1' n1' c1' s1') (h6' : Sl noteR w lo' hi' A6' n6' c6' s6') (hh : hi ≤ w.heap.size) (hh' : hi' ≤ w.heap.size) :
    Calls Tryz.prog 10 #[.agg #[.slice A0 n0 c0, .slice A1 n1 c1, .int .i64 x2, .int .i64 x3, .int .i64 x4, .int .i64 x5, .slice A6 n6 c6], .agg #[.slice A0' n0' c0', .slice A1' n1' c1', .int .i64 x2', .int .i64 x3', .int .i64 x4', .int .i64 x5', .slice A6' n6' c6']] w (RetB (eqB (s0, s1, x2, x3, x4, x5, s6) (s0', s1', x2', x3', x4', x5', s6')) w) := by
  go_enter Tryz.func10, Tryz.ntmps10
  go_wp2_with fail
  all_goals try (go_ret; exact RetB.mk (by simp_all [eqB]) (by exact belA))
  refine (lawsEqFrameS _ lo hi lo' hi' n0 n0' c0 c0' A0 A0' s0 s0' (h0.below (B := w.heap.size) (by exact belA) hh) (h0'.below (B := w.heap.size) (by exact belA) hh') (by first | omega | (simp; omega)) (by first | omega | (simp; omega))).mono ?_
  rintro e w0 ⟨rfl, b0⟩
  obtain ⟨hc0, hf0⟩ := bcell b0
  have hz0 := b0.size
  try simp at hz0
  have hv0 : w.heap.size < w0.heap.size := by omega
  have hx0 : w.heap.size + 1 < w0.heap.size := by omega
  go_wp2_with fail
  all_goals try (go_ret; exact RetB.mk (by simp_all [eqB]) (by exact belA))
  refine (lawsEqIntS _ lo hi lo' hi' n1 n1' c1 c1' A1 A1' s1 s1' (h1.below (B := w.heap.size) (by exact belA) hh) (h1'.below (B := w.heap.size) (by exact belA) hh') (by first | omega | (simp; omega)) (by first | omega | (simp; omega))).mono ?_
  rintro e w1 ⟨rfl, b1⟩
  obtain ⟨hc1, hf1⟩ := bcell b1
  have hz1 := b1.size
  try simp at hz1
  have hv1 : w.heap.size < w1.heap.size := by omega
  have hx1 : w.heap.size + 1 < w1.heap.size := by omega
  go_wp2_with fail
  all_goals try (go_ret; exact RetB.mk (by simp_all [eqB]) (by exact belA))
  refine (lawsEqNoteS _ lo hi lo' hi' n6 n6' c6 c6' A6 A6' s6 s6' (h6.below (B := w.heap.size) (by exact belA) hh) (h6'.below (B := w.heap.size) (by exact belA) hh') (by first | omega | (simp; omega)) (by first | omega | (simp; omega))).mono ?_
  rintro e w6 ⟨rfl, b6⟩
  obtain ⟨hc6, hf6⟩ := bcell b6
  have hz6 := b6.size
  try simp at hz6
  have hv6 : w.heap.size < w6.heap.size := by omega
  have hx6 : w.heap.size + 1 < w6.heap.size := by omega
  go_wp2_with fail
  all_goals (go_ret; exact RetB.mk (by simp_all [eqB]) (by exact belA))
end Go.Proofs.YtgdeclmciflmpaaGreat
