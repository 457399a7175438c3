/- Whether a code has its sizes, and goes on: walks of both sides. -/
import Derived.Test.YtgoinmdnpaknpaaGreatSized
import Derived.Test.YtgoinmdnpaknpaaGreatNext
set_option linter.unusedVariables false
set_option linter.unusedSimpArgs false
set_option maxRecDepth 100000
namespace Go.Proofs.YtgoinmdnpaknpaaGreat
open Go.RowKit
theorem isSizedCode1 (w : World) (o n : Int) (hn : I64 n) : Calls Tryz.prog 94 #[.agg #[.int .i64 o, .int .i64 n]] w (RetB (!insB (o, n)) w) := by
  go_enter Tryz.func94, Tryz.ntmps94
  go_wp2_with (go_at_call 95; ((with_reducible refine (implIsIns _ _ _ hn).mono ?_); rintro e w2 ⟨rfl, hb⟩))
  go_ret
  exact RetB.mk rfl (by exact belA)
theorem codeSz_eq {w : World} {lo hi : Nat} {x0 x1 : Int} {A2 A3 A4 : Option Addr} {n2 c2 n3 c3 n4 c4 : Nat} {s2 : List Int} {s3 : List Ins} {s4 : List Row} (h2 : Sl intR w lo hi A2 n2 c2 s2) (h3 : Sl InsR w lo hi A3 n3 c3 s3) (h4 : Sl RowR w lo hi A4 n4 c4 s4) :
    codeSz (x0, x1, s2, s3, s4) = (inB x0 0 2 && inB x1 x0 6 && decide ((n2 : Int) ≤ 4) && inB n3 1 300 && decide ((n4 : Int) ≤ 300) && s3.all insB) := by
  have e2 : decide ((n2 : Int) ≤ 4) = decide (n2 ≤ 4) := by rw [decide_eq_decide]; omega
  have e4 : decide ((n4 : Int) ≤ 300) = decide (n4 ≤ 300) := by rw [decide_eq_decide]; omega
  unfold codeSz
  simp only [h2.lenEq, h3.lenEq, h4.lenEq, e2, e4]
set_option maxHeartbeats 2000000 in
theorem implIsSizedCode (w : World) (lo hi : Nat) (x0 x1 : Int) (A2 A3 A4 : Option Addr) (n2 c2 n3 c3 n4 c4 : Nat) (s2 : List Int) (s3 : List Ins) (s4 : List Row) (h2 : Sl intR w lo hi A2 n2 c2 s2) (h3 : Sl InsR w lo hi A3 n3 c3 s3) (h4 : Sl RowR w lo hi A4 n4 c4 s4) (hh : hi ≤ w.heap.size) :
    Calls Tryz.prog 68 #[.agg #[.int .i64 x0, .int .i64 x1, .slice A2 n2 c2, .slice A3 n3 c3, .slice A4 n4 c4]] w (RetB (codeSz (x0, x1, s2, s3, s4)) w) := by
  have hq := Lib.hid (codeSz_eq (x0 := x0) (x1 := x1) h2 h3 h4)
  have e : ∀ b, codeSz (x0, x1, s2, s3, s4) = b → Hid (codeSz (x0, x1, s2, s3, s4) = b) := fun b h => Lib.hid h
  by_cases g1 : inB x0 0 2 = true
  rotate_left
  · have g1 : inB x0 0 2 = false := by simpa using g1
    have hn := e false (by rw [hq.out, g1]; rfl)
    clear e
    go_enter Tryz.func68, Tryz.ntmps68
    go_wp2_with (go_at_call 65; ((with_reducible refine (implWithin _ _ _ _).mono ?_); rintro e w2 ⟨rfl, rfl⟩))
    go_ret
    exact RetB.mk hn.out.symm (by exact belA)
  by_cases g2 : inB x1 x0 6 = true
  rotate_left
  · have g2 : inB x1 x0 6 = false := by simpa using g2
    have hn := e false (by rw [hq.out, g1, g2]; rfl)
    clear e
    go_enter Tryz.func68, Tryz.ntmps68
    go_wp2_with (go_at_call 65; ((with_reducible refine (implWithin _ _ _ _).mono ?_); rintro e w2 ⟨rfl, rfl⟩))
    go_ret
    exact RetB.mk hn.out.symm (by exact belA)
  by_cases g3 : n2 ≤ 4
  rotate_left
  · have g3 : decide ((n2 : Int) ≤ 4) = false := by simp; omega
    have hn := e false (by rw [hq.out, g1, g2, g3]; rfl)
    clear e
    go_enter Tryz.func68, Tryz.ntmps68
    go_wp2_with (go_at_call 65; ((with_reducible refine (implWithin _ _ _ _).mono ?_); rintro e w2 ⟨rfl, rfl⟩))
    go_ret
    exact RetB.mk hn.out.symm (by exact belA)
  have g3' : decide ((n2 : Int) ≤ 4) = true := by simp; omega
  by_cases g4 : inB (n3 : Int) 1 300 = true
  rotate_left
  · have g4 : inB (n3 : Int) 1 300 = false := by simpa using g4
    have hn := e false (by rw [hq.out, g1, g2, g3', g4]; rfl)
    clear e
    go_enter Tryz.func68, Tryz.ntmps68
    go_wp2_with (go_at_call 65; ((with_reducible refine (implWithin _ _ _ _).mono ?_); rintro e w2 ⟨rfl, rfl⟩))
    go_ret
    exact RetB.mk hn.out.symm (by exact belA)
  by_cases g5 : n4 ≤ 300
  rotate_left
  · have g5 : decide ((n4 : Int) ≤ 300) = false := by simp; omega
    have hn := e false (by rw [hq.out, g1, g2, g3', g4, g5]; rfl)
    clear e
    go_enter Tryz.func68, Tryz.ntmps68
    go_wp2_with (go_at_call 65; ((with_reducible refine (implWithin _ _ _ _).mono ?_); rintro e w2 ⟨rfl, rfl⟩))
    go_ret
    exact RetB.mk hn.out.symm (by exact belA)
  have g5' : decide ((n4 : Int) ≤ 300) = true := by simp; omega
  have hn := e (s3.all insB) (by rw [hq.out, g1, g2, g3', g4, g5']; rfl)
  clear e
  go_enter Tryz.func68, Tryz.ntmps68
  go_wp2_with (go_at_call 65; ((with_reducible refine (implWithin _ _ _ _).mono ?_); rintro e w2 ⟨rfl, rfl⟩))
  refine (conFuncIns 94 #[] (fun x => !insB x) _ lo hi n3 c3 A3 s3 (h3.below (show Below w.heap.size w _ by exact belA) hh) (by first | omega | (simp; done) | (simp; omega)) (fun _ _ => by kernel_rfl) (fun W a b _ _ _ i1 => isSizedCode1 W a b i1)).mono ?_
  rintro e w2 ⟨rfl, hb⟩
  go_wp2_with fail
  go_ret
  exact RetB.mk (by rw [hn.out, ← any_not_all]) (by exact belA)
set_option maxHeartbeats 4000000 in
theorem specL5Sized (w : World) (lo hi : Nat) (A : Option Addr) (n c : Nat) (x : List Code) (h : Sl CodeR w lo hi A n c x) (hh : hi ≤ w.heap.size) :
    Calls Tryz.prog 24 #[.agg #[.slice A n c]] w (RetB (sizedB x) w) := by
  have HL := Lib.hid h.lenEq
  have b1 := h.lenLe
  go_enter Tryz.func24, Tryz.ntmps24
  go_wp2_with fail
  go_loopw [10] (fun i wr => ∃ (k : Nat), i = .int .i64 k ∧ k ≤ n ∧ (x.take k).all codeSz = true ∧ Below w.heap.size w wr ∧ wr.cell? ⟨w.heap.size, 0, none⟩ = some (.slice A n c)) (fun i _ => n - (intOf i).toNat)
  case atStart => exact ⟨0, rfl, Nat.zero_le _, rfl, by exact belA, by simp [go_sem]⟩
  case round =>
    obtain ⟨k, rfl, hk, ht0, hb, hbx⟩ := hrel
    have ht := Lib.hid ht0
    clear ht0
    have hbs := hb.size
    have hzw : w.heap.size < wr.heap.size := World.block_lt_of_cell? wr _ hbx
    by_cases hlt : k < n
    · obtain ⟨b, o, x0, x1, A2, n2, c2, s2, A3, n3, c3, s3, A4, n4, c4, s4, rfl, _, _, hl0, i0, i1, h2, h3, h4, d0, d1, d2, d3, d4⟩ := Code_at (h.below hb hh) hlt
      have hq := codeSz_eq (x0 := x0) (x1 := x1) h2 h3 h4
      have hok := Lib.hid (fun (hp : codeSz (x0, x1, s2, s3, s4) = true) => all_take_succ (p := codeSz) ht.out (by have := HL.out; omega) (by rw [hl0]; exact hp))
      have hno := Lib.hid (fun (hp : codeSz (x0, x1, s2, s3, s4) = false) => all_false (p := codeSz) (l := x) (k := k) (by have := HL.out; omega) (by rw [hl0]; exact hp))
      have hq := Lib.hid hq
      have HL3 := Lib.hid h3.lenEq
      have b3 := h3.lenLe
      clear hl0
      by_cases g1 : inB x0 0 2 = true
      rotate_left
      · have g1 : inB x0 0 2 = false := by simpa using g1
        have hno := Lib.hid (hno.out (by rw [hq.out, g1]; rfl))
        have hfin := Lib.hid (show sizedB x = false by unfold sizedB; rw [hno.out, Bool.and_false])
        clear hok hq
        go_wp2_with (go_at_call 49; ((with_reducible refine (specL1In _ _ _ _).mono ?_); rintro e w2 ⟨rfl, rfl⟩))
        go_ret
        exact RetB.mk hfin.out.symm (by exact belA)
      by_cases g2 : inB x1 x0 6 = true
      rotate_left
      · have g2 : inB x1 x0 6 = false := by simpa using g2
        have hno := Lib.hid (hno.out (by rw [hq.out, g1, g2]; rfl))
        have hfin := Lib.hid (show sizedB x = false by unfold sizedB; rw [hno.out, Bool.and_false])
        clear hok hq
        go_wp2_with (go_at_call 49; ((with_reducible refine (specL1In _ _ _ _).mono ?_); rintro e w2 ⟨rfl, rfl⟩))
        go_ret
        exact RetB.mk hfin.out.symm (by exact belA)
      by_cases g3 : n2 ≤ 4
      rotate_left
      · have g3' : decide ((n2 : Int) ≤ 4) = false := by simp; omega
        have g3'' : decide ((n2 : Int) > 4) = true := by simp; omega
        have hno := Lib.hid (hno.out (by rw [hq.out, g1, g2, g3']; rfl))
        have hfin := Lib.hid (show sizedB x = false by unfold sizedB; rw [hno.out, Bool.and_false])
        clear hok hq
        go_wp2_with (go_at_call 49; ((with_reducible refine (specL1In _ _ _ _).mono ?_); rintro e w2 ⟨rfl, rfl⟩))
        go_ret
        exact RetB.mk hfin.out.symm (by exact belA)
      have g3' : decide ((n2 : Int) ≤ 4) = true := by simp; omega
      have g3'' : decide ((n2 : Int) > 4) = false := by simp; omega
      by_cases g4 : inB (n3 : Int) 1 300 = true
      rotate_left
      · have g4 : inB (n3 : Int) 1 300 = false := by simpa using g4
        have hno := Lib.hid (hno.out (by rw [hq.out, g1, g2, g3', g4]; rfl))
        have hfin := Lib.hid (show sizedB x = false by unfold sizedB; rw [hno.out, Bool.and_false])
        clear hok hq
        go_wp2_with (go_at_call 49; ((with_reducible refine (specL1In _ _ _ _).mono ?_); rintro e w2 ⟨rfl, rfl⟩))
        go_ret
        exact RetB.mk hfin.out.symm (by exact belA)
      by_cases g5 : n4 ≤ 300
      rotate_left
      · have g5' : decide ((n4 : Int) ≤ 300) = false := by simp; omega
        have g5'' : decide ((n4 : Int) > 300) = true := by simp; omega
        have hno := Lib.hid (hno.out (by rw [hq.out, g1, g2, g3', g4, g5']; rfl))
        have hfin := Lib.hid (show sizedB x = false by unfold sizedB; rw [hno.out, Bool.and_false])
        clear hok hq
        go_wp2_with (go_at_call 49; ((with_reducible refine (specL1In _ _ _ _).mono ?_); rintro e w2 ⟨rfl, rfl⟩))
        go_ret
        exact RetB.mk hfin.out.symm (by exact belA)
      have g5' : decide ((n4 : Int) ≤ 300) = true := by simp; omega
      have g5'' : decide ((n4 : Int) > 300) = false := by simp; omega
      have hq := Lib.hid (show codeSz (x0, x1, s2, s3, s4) = s3.all insB by rw [hq.out, g1, g2, g3', g4, g5']; rfl)
      have hok := Lib.hid (fun (hp : s3.all insB = true) => hok.out (hq.out.trans hp))
      have hno := Lib.hid (fun (hp : s3.all insB = false) => show sizedB x = false by unfold sizedB; rw [hno.out (hq.out.trans hp), Bool.and_false])
      clear g3' g5'
      go_wp2_with (go_at_call 49; ((with_reducible refine (specL1In _ _ _ _).mono ?_); rintro e w2 ⟨rfl, rfl⟩))
      go_loopw [48] (fun i w2 => ∃ (q : Nat), i = .int .i64 q ∧ q ≤ n3 ∧ (s3.take q).all insB = true ∧ Below wr.heap.size wr w2) (fun i _ => n3 - (intOf i).toNat)
      case atStart => exact ⟨0, rfl, Nat.zero_le _, rfl, by exact belA⟩
      case round =>
        obtain ⟨q, rfl, hq2, ht2, hb2⟩ := hrel
        have ht2 := Lib.hid ht2
        have hbs2 := hb2.size
        by_cases hlt2 : q < n3
        · obtain ⟨b', o', y0, y1, rfl, _, _, hl1, j0, j1, e0, e1⟩ := Ins_at (h3.below hb2 (by omega)) hlt2
          have hok2 := Lib.hid (fun (hp : insB (y0, y1) = true) => all_take_succ (p := insB) ht2.out (by have := HL3.out; omega) (by rw [hl1]; exact hp))
          have hno2 := Lib.hid (fun (hp : insB (y0, y1) = false) => hno.out (all_false (p := insB) (l := s3) (k := q) (by have := HL3.out; omega) (by rw [hl1]; exact hp)))
          clear hl1
          go_wp2_with fail
          refine (specL5Ins _ _ _).mono ?_
          rintro e w3 ⟨rfl, hb3⟩
          by_cases hp : insB (y0, y1) = true
          · have hok2 := Lib.hid (hok2.out hp)
            go_wp2_with fail
            go_roundw
            case rel => exact ⟨q + 1, by go_num, by omega, hok2.out, by exact belA⟩
            case measure => simp [intOf]; omega
          · have hp : insB (y0, y1) = false := by simpa using hp
            have hno2 := Lib.hid (hno2.out hp)
            go_wp2_with fail
            go_ret
            exact RetB.mk hno2.out.symm (below_then hb (below_then hb2 (show Below wr.heap.size wr _ by exact belA)))
        · have hall := Lib.hid (hok.out (by have := ht2.out; rwa [List.take_of_length_le (by have := HL3.out; omega)] at this))
          have hb4 := below_then hb hb2
          have hbx2 := below_cell hb2 hbx
          go_wp2_with fail
          go_roundw
          case rel => exact ⟨k + 1, by go_num, by omega, hall.out, hb4, hbx2⟩
          case measure => simp [intOf]; omega
    · have hall := Lib.hid (show sizedB x = inB (n : Int) 1 5 by unfold sizedB; have := ht.out; rw [List.take_of_length_le (by have := HL.out; omega)] at this; rw [this, HL.out, Bool.and_true])
      go_wp2_with (go_at_call 49; ((with_reducible refine (specL1In _ _ _ _).mono ?_); rintro e w2 ⟨rfl, rfl⟩))
      go_ret
      exact RetB.mk hall.out.symm hb
theorem nextF_in {i : Ins} {p : Int} (hp : 0 ≤ p) (hi : insB i = true) : ∀ s, s ∈ nextF i p → 0 ≤ s := by
  obtain ⟨o, n⟩ := i
  have h10 : o = 10 ∨ o = 11 → 0 ≤ n := fun h => by
    have hh : hasNB o = true := by rcases h with rfl | rfl <;> rfl
    unfold insB at hi
    simp only at hi
    rw [if_neg (by omega), if_neg (by omega), if_pos hh] at hi
    exact (inB_iff.1 hi).1
  intro s hs
  unfold nextF at hs
  simp only at hs
  split at hs
  · simp at hs; have := h10 (Or.inl ‹_›); omega
  · split at hs
    · have := h10 (Or.inr ‹_›)
      split at hs
      · simp at hs; omega
      · split at hs <;> (simp at hs; omega)
    · split at hs
      · simp at hs
      · simp at hs; omega
theorem goesI_lt {I : List Ins} {p : Nat} (hp : p < I.length) (hi : I.all insB = true) : goesI I p = (nextF I[p] (p : Int)).all fun s => decide (s < (I.length : Int)) := by
  have hI : insB I[p] = true := List.all_eq_true.1 hi _ (List.getElem_mem hp)
  have hin := nextF_in (p := (p : Int)) (by omega) hI
  unfold goesI
  rw [show I.getD p (0, 0) = I[p] by simp [List.getD, hp]]
  rw [Bool.eq_iff_iff, List.all_eq_true, List.all_eq_true]
  constructor
  · intro h s hs
    have := inB_iff.1 (h s hs)
    simp; omega
  · intro h s hs
    have h1 := hin s hs
    have h2 := h s hs
    exact inB_true ⟨h1, by simp at h2; omega⟩
theorem goesI_eq {I : List Ins} {p : Nat} {i : Ins} (hp : p < I.length) (h : I[p] = i) : goesI I p = (nextF i (p : Int)).all fun s => inB s 0 ((I.length : Int) - 1) := by
  unfold goesI
  rw [show I.getD p (0, 0) = I[p] by simp [List.getD, hp], h]
theorem nextF_ok {i : Ins} {p : Int} (hi : I64 i.2) (hp : 0 ≤ p ∧ p ≤ 1048576) : ∀ s, s ∈ nextF i p → I64 s := by
  have h1 : I64 (p + 1) := by unfold I64; omega
  intro s hs
  unfold nextF at hs
  split at hs
  · simp at hs; subst hs; exact hi
  · split at hs
    · split at hs
      · simp at hs; rcases hs with rfl | rfl <;> assumption
      · split at hs
        · simp at hs; subst hs; exact h1
        · simp at hs; rcases hs with rfl | rfl <;> assumption
    · split at hs
      · simp at hs
      · simp at hs; subst hs; exact h1
theorem goesOn1 (w : World) (s : Int) (q : Nat) (A : Option Addr) (n c : Nat) (hq : w.cell? ⟨q, 0, none⟩ = some (.slice A n c)) : Calls Tryz.prog 99 (#[.int .i64 s] ++ #[.pointer (some ⟨q, 0, none⟩)]) w (RetB (!decide (s < (n : Int))) w) := by
  show Calls Tryz.prog 99 #[.int .i64 s, .pointer (some ⟨q, 0, none⟩)] w _
  go_enter Tryz.func99, Tryz.ntmps99
  go_wp2_with fail
  go_ret
  exact RetB.mk (by rw [← decide_not, decide_eq_decide]; omega) (by exact belA)
set_option maxHeartbeats 4000000 in
theorem implGoesOn (w : World) (lo hi : Nat) (A : Option Addr) (n c : Nat) (l : List Ins) (h : Sl InsR w lo hi A n c l) (hh : hi ≤ w.heap.size) (hn : n ≤ 1048576) (hi2 : l.all insB = true) :
    Calls Tryz.prog 72 #[.slice A n c] w (RetB (goesB l) w) := by
  have HL := Lib.hid h.lenEq
  have HI := Lib.hid hi2
  clear hi2
  go_enter Tryz.func72, Tryz.ntmps72
  go_wp2_with fail
  go_loopw [7] (fun i wr => ∃ (k : Nat), i = .int .i64 k ∧ k ≤ n ∧ (List.range k).all (goesI l) = true ∧ wr.cell? ⟨w.heap.size, 0, none⟩ = some (.slice A n c) ∧ Below w.heap.size w wr) (fun i _ => n - (intOf i).toNat)
  case atStart => exact ⟨0, rfl, Nat.zero_le _, rfl, by simp [go_sem], by exact belA⟩
  case round =>
    obtain ⟨k, rfl, hk, ht0, hbx, hb⟩ := hrel
    have ht := Lib.hid ht0
    clear ht0
    have hbs := hb.size
    have hzw : w.heap.size < wr.heap.size := World.block_lt_of_cell? wr _ hbx
    by_cases hlt : k < n
    · obtain ⟨b, o, x0, x1, rfl, _, _, hl0, i0, i1, d0, d1⟩ := Ins_at (h.below hb hh) hlt
      have hq := goesI_lt (I := l) (p := k) (by have := HL.out; omega) HI.out
      rw [hl0, HL.out] at hq
      have hq := Lib.hid hq
      have hok := Lib.hid (fun (hp : goesI l k = true) => range_all_succ (p := goesI l) ht.out hp)
      have hno := Lib.hid (fun (hp : goesI l k = false) => show goesB l = false from range_all_false (p := goesI l) (n := l.length) (k := k) (by have := HL.out; omega) hp)
      clear hl0
      go_wp2_with fail
      refine (implNextOf _ x0 x1 (k : Int) i1 (by omega)).mono ?_
      rintro e w2 ⟨v, rfl, hr2, hb2⟩
      have hb3 : Below wr.heap.size wr w2 := by exact belA
      have hbx2 := below_cell hb3 hbx
      obtain ⟨A2, m2, c2, rfl, hm2⟩ := hr2.form
      have hs2 := hr2.sl (nextF_ok (i := (x0, x1)) i1 (by omega))
      have hz3 := hb3.size
      clear hm2 hr2
      go_wp2_with fail
      refine (conFuncInt 99 #[.pointer (some ⟨w.heap.size, 0, none⟩)] (fun s => !decide (s < (n : Int))) _ 0 w2.heap.size m2 c2 A2 (nextF (x0, x1) (k : Int)) (hs2.below (show Below w2.heap.size w2 _ by exact belA) (Nat.le_refl _)) (by first | omega | (simp; done) | (simp; omega)) (fun _ _ => by kernel_rfl) (fun W s _ hW _ => goesOn1 W s w.heap.size _ n c (by exact below_cell (w := w2) (by exact hW) hbx2))).mono ?_
      rintro e w3 ⟨rfl, hb4⟩
      have hb5 := below_then hb3 (show Below w2.heap.size w2 w3 by exact belA)
      have hq2 := Lib.hid (show (nextF (x0, x1) (k : Int)).any (fun s => !decide (s < (n : Int))) = !goesI l k by rw [hq.out, ← any_not_all, Bool.not_not])
      rw [hq2.out]
      cases hp : goesI l k
      · have hno2 := Lib.hid (hno.out hp)
        clear hp
        go_wp2_with fail
        go_ret
        exact RetB.mk hno2.out.symm (below_then hb hb5)
      · have hok2 := Lib.hid (hok.out hp)
        have hbx3 := below_cell (show Below w2.heap.size w2 w3 by exact belA) hbx2
        clear hp
        go_wp2_with fail
        go_roundw
        case rel => exact ⟨k + 1, by go_num, by omega, hok2.out, hbx3, below_then hb hb5⟩
        case measure => simp [intOf]; omega
    · have hall := Lib.hid (show goesB l = true by unfold goesB; rw [HL.out, show n = k by omega]; exact ht.out)
      go_wp2_with fail
      go_ret
      exact RetB.mk hall.out.symm hb
set_option maxHeartbeats 4000000 in
theorem specL5Goes (w : World) (lo hi : Nat) (x0 x1 : Int) (v2 v4 : Value) (A : Option Addr) (n c : Nat) (A2 A4 : Option Addr) (n2 c2 n4 c4 : Nat) (l : List Ins) (h : Sl InsR w lo hi A n c l) (hh : hi ≤ w.heap.size) (hn : n ≤ 1048576) :
    Calls Tryz.prog 53 #[.agg #[.int .i64 x0, .int .i64 x1, .slice A2 n2 c2, .slice A n c, .slice A4 n4 c4]] w (RetB (goesB l) w) := by
  have HL := Lib.hid h.lenEq
  go_enter Tryz.func53, Tryz.ntmps53
  go_wp2_with fail
  go_loopw [8] (fun i wr => ∃ (k : Nat), i = .int .i64 k ∧ k ≤ n ∧ (List.range k).all (goesI l) = true ∧ wr.cell? ⟨w.heap.size, 3, none⟩ = some (.slice A n c) ∧ Below w.heap.size w wr) (fun i _ => n - (intOf i).toNat)
  case atStart => exact ⟨0, rfl, Nat.zero_le _, rfl, by simp [go_sem], by exact belA⟩
  case round =>
    obtain ⟨k, rfl, hk, ht0, hbx, hb⟩ := hrel
    have ht := Lib.hid ht0
    clear ht0
    have hbs := hb.size
    have hzw : w.heap.size < wr.heap.size := World.block_lt_of_cell? wr _ hbx
    by_cases hlt : k < n
    · obtain ⟨b, o, y0, y1, rfl, _, _, hl0, i0, i1, d0, d1⟩ := Ins_at (h.below hb hh) hlt
      have hq := goesI_eq (I := l) (p := k) (by have := HL.out; omega) hl0
      rw [HL.out] at hq
      replace hq := Lib.hid hq
      have hok := Lib.hid (fun (hp : goesI l k = true) => range_all_succ (p := goesI l) ht.out hp)
      have hno := Lib.hid (fun (hp : goesI l k = false) => show goesB l = false from range_all_false (p := goesI l) (n := l.length) (k := k) (by have := HL.out; omega) hp)
      clear hl0
      go_wp2_with fail
      have qw : IntKind.i64.wrap ((n : Int) - 1) = (n : Int) - 1 := IntWalk.i64_in _ (by omega)
      go_region_with (first
        | (go_at_call 82; ((with_reducible refine (specL5Next _ y0 y1 (k : Int) i1 (by omega)).mono ?_); rintro e w2 ⟨v, rfl, hr2, hb2⟩; obtain ⟨A3, m3, c3, rfl, hm3⟩ := hr2.form; have hb3 : Below wr.heap.size wr w2 := (by exact belA); have hbx2 := below_cell hb3 hbx; have hs2 := hr2.sl (nextF_ok (i := (y0, y1)) i1 (by omega)); clear hm3))
        | (go_at_call 44; ((with_reducible refine (specL1All _ 0 w2.heap.size m3 c3 A3 (nextF (y0, y1) (k : Int)) _ _ (hs2.below (show Below w2.heap.size w2 _ by exact belA) (Nat.le_refl _)) (by first | omega | (simp; done) | (simp; omega))).mono ?_); rintro e w3 ⟨rfl, hb4⟩)))
      all_goals
        generalize hB : ((nextF (y0, y1) (k : Int)).all fun x => inB x 0 ((n : Int) - 1)) = B
        have hB := Lib.hid (hq.out.trans hB)
        rename_i hB'
        clear hB'
        have hb5 := below_then hb3 hb4
        cases B
        · have hno2 := Lib.hid (hno.out hB.out)
          go_wp2_with fail
          go_ret
          exact RetB.mk hno2.out.symm (below_then hb hb5)
        · have hok2 := Lib.hid (hok.out hB.out)
          have hbx3 := below_cell hb4 hbx2
          go_wp2_with fail
          go_roundw
          case rel => exact ⟨k + 1, by go_num, by omega, hok2.out, hbx3, below_then hb hb5⟩
          case measure => simp [intOf]; omega
    · have hall := Lib.hid (show goesB l = true by unfold goesB; rw [HL.out, show n = k by omega]; exact ht.out)
      go_wp2_with fail
      go_ret
      exact RetB.mk hall.out.symm hb
end Go.Proofs.YtgoinmdnpaknpaaGreat
