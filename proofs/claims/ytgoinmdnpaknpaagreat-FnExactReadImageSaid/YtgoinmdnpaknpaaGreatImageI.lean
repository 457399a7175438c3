/- Whether an image is good: walks of both sides. -/
import Derived.Test.YtgoinmdnpaknpaaGreatCodeI
import Derived.Test.YtgoinmdnpaknpaaGreatCodeS
import Derived.Test.YtgoinmdnpaknpaaGreatSized2
import Derived.Test.YtgoinmdnpaknpaaGreatTyIm
set_option linter.unusedVariables false
set_option linter.unusedSimpArgs false
set_option maxRecDepth 100000
namespace Go.Proofs.YtgoinmdnpaknpaaGreat
open Go.RowKit
theorem goodI_no {x : Image} (h : sizedB x = false) : goodI x = false := by unfold goodI; rw [h]; rfl
theorem goodI_par {x : Image} (h : parF x 0 ≠ 0) : goodI x = false := by unfold goodI; rw [show (parF x 0 == 0) = false by simpa using h]; simp
theorem goodI_bad {x : Image} {k : Nat} (hk : k < x.length) (h : codeF x x[k] ≠ 0) : goodI x = false := by
  unfold goodI
  rw [all_false (p := fun c => decide (codeF x c = 0)) hk (by simpa using h), Bool.and_false]
theorem goodI_yes {x : Image} (h1 : sizedB x = true) (h2 : parF x 0 = 0) (h3 : x.all (fun c => decide (codeF x c = 0)) = true) : goodI x = true := by
  unfold goodI; rw [h1, h2, h3]; rfl
theorem goodI_iff {x : Image} : goodI x = true ↔ sizedB x = true ∧ parF x 0 = 0 ∧ ∀ c, c ∈ x → codeF x c = 0 := by
  unfold goodI; simp [and_assoc]
theorem sizedB_mem {x : Image} (h : sizedB x = true) : ∀ c, c ∈ x → codeSz c = true := by
  unfold sizedB at h
  rw [Bool.and_eq_true] at h
  exact List.all_eq_true.1 h.2
theorem sizedB_len {x : Image} (h : sizedB x = true) : 1 ≤ x.length ∧ x.length ≤ 5 := by
  unfold sizedB at h
  rw [Bool.and_eq_true] at h
  have := inB_iff.1 h.1
  omega
theorem codeF_ge (x : Image) (c : Code) : 0 ≤ codeF x c := by
  unfold codeF
  split
  · omega
  · split
    · omega
    · split
      · omega
      · split
        · omega
        · split
          · omega
          · split
            · omega
            · split <;> omega
theorem isSized1 (w : World) (lo hi : Nat) (x0 x1 : Int) (A2 A3 A4 : Option Addr) (n2 c2 n3 c3 n4 c4 : Nat) (s2 : List Int) (s3 : List Ins) (s4 : List Row) (h2 : Sl intR w lo hi A2 n2 c2 s2) (h3 : Sl InsR w lo hi A3 n3 c3 s3) (h4 : Sl RowR w lo hi A4 n4 c4 s4) (hh : hi ≤ w.heap.size) :
    Calls Tryz.prog 67 #[.agg #[.int .i64 x0, .int .i64 x1, .slice A2 n2 c2, .slice A3 n3 c3, .slice A4 n4 c4]] w (RetB (!codeSz (x0, x1, s2, s3, s4)) w) := by
  go_enter Tryz.func67, Tryz.ntmps67
  go_wp2_with fail
  have hb0 := Lib.hid (show Below w.heap.size w _ by exact belA)
  refine (implIsSizedCode _ lo hi x0 x1 A2 A3 A4 n2 c2 n3 c3 n4 c4 s2 s3 s4 (h2.below (show Below w.heap.size w _ by exact belA) hh) (h3.below (show Below w.heap.size w _ by exact belA) hh) (h4.below (show Below w.heap.size w _ by exact belA) hh) (by first | omega | (simp; done) | (simp; omega))).mono ?_
  rintro e w2 ⟨rfl, hb⟩
  go_wp2_with fail
  go_ret
  exact RetB.mk rfl (below_then (show Below w.heap.size w _ by exact belA) (by exact belA))
set_option maxHeartbeats 2000000 in
theorem implIsSized (w : World) (lo hi : Nat) (A : Option Addr) (n c : Nat) (x : List Code) (h : Sl CodeR w lo hi A n c x) (hh : hi ≤ w.heap.size) :
    Calls Tryz.prog 28 #[.agg #[.slice A n c]] w (RetB (sizedB x) w) := by
  have HL := h.lenEq
  have e : sizedB x = (inB (n : Int) 1 5 && x.all codeSz) := by unfold sizedB; rw [HL]
  clear HL
  by_cases g : inB (n : Int) 1 5 = true
  rotate_left
  · have g : inB (n : Int) 1 5 = false := by simpa using g
    have hn := Lib.hid (show sizedB x = false by rw [e, g]; rfl)
    clear e
    go_enter Tryz.func28, Tryz.ntmps28
    go_wp2_with (go_at_call 65; ((with_reducible refine (implWithin _ _ _ _).mono ?_); rintro e w2 ⟨rfl, rfl⟩))
    go_ret
    exact RetB.mk hn.out.symm (by exact belA)
  have hn := Lib.hid (show sizedB x = x.all codeSz by rw [e, g]; rfl)
  clear e
  go_enter Tryz.func28, Tryz.ntmps28
  go_wp2_with (go_at_call 65; ((with_reducible refine (implWithin _ _ _ _).mono ?_); rintro e w2 ⟨rfl, rfl⟩))
  refine (conFuncCode 67 #[] (fun x => !codeSz x) _ lo hi n c A x (h.below (show Below w.heap.size w _ by exact belA) hh) (by first | omega | (simp; done) | (simp; omega)) (fun _ _ => by kernel_rfl) (fun W x0 x1 A2 n2 c2 s2 A3 n3 c3 s3 A4 n4 c4 s4 _ hW _ _ h2 h3 h4 => isSized1 W lo hi x0 x1 A2 A3 A4 n2 c2 n3 c3 n4 c4 s2 s3 s4 h2 h3 h4 (by have := hW.size; simp at this; omega))).mono ?_
  rintro e w2 ⟨rfl, hb⟩
  go_wp2_with fail
  go_ret
  exact RetB.mk (by rw [hn.out, ← any_not_all]) (by exact belA)
set_option maxHeartbeats 4000000 in
theorem implIsImage (w : World) (lo hi : Nat) (A : Option Addr) (n c : Nat) (x : List Code) (h : Sl CodeR w lo hi A n c x) (hh : hi ≤ w.heap.size) :
    Calls Tryz.prog 15 #[.agg #[.slice A n c]] w (RetB (goodI x) w) := by
  have HL := Lib.hid h.lenEq
  by_cases g : sizedB x = true
  rotate_left
  · have g : sizedB x = false := by simpa using g
    have hn := Lib.hid (goodI_no g)
    go_enter Tryz.func15, Tryz.ntmps15
    go_wp2_with fail
    refine (implIsSized _ lo hi A n c x (h.below (show Below w.heap.size w _ by exact belA) hh) (by first | omega | (simp; done) | (simp; omega))).mono ?_
    rintro e w2 ⟨rfl, hb⟩
    go_wp2_with fail
    go_ret
    exact RetB.mk hn.out.symm (below_then (show Below w.heap.size w _ by exact belA) (by exact belA))
  have hlen := sizedB_len g
  rw [HL.out] at hlen
  have hmem := Lib.hid (sizedB_mem g)
  have gh := Lib.hid g
  obtain ⟨b0, o0, x0, x1, A2, n2, c2, s2, A3, n3, c3, s3, A4, n4, c4, s4, rfl, _, hbb, hl, i0, i1, h2, h3, h4, d0, d1, d2, d3, d4⟩ := Code_at h (show 0 < n by omega)
  have hp := parF_at (show 0 < x.length by have := HL.out; omega) hl
  have hp := Lib.hid (show parF x 0 = x0 from hp)
  clear hl h2 h3 h4 d1 d2 d3 d4
  have d0 : w.cell? ⟨b0, o0, none⟩ = some (.int .i64 x0) := by simpa using d0
  by_cases hx0 : x0 = 0
  rotate_left
  · have hn := Lib.hid (goodI_par (x := x) (by rw [hp.out]; exact hx0))
    have e1 : (x0 != 0) = true := by simpa using hx0
    have e2 : (x0 == 0) = false := by simpa using hx0
    go_enter Tryz.func15, Tryz.ntmps15
    go_wp2_with fail
    have hb0 : Below w.heap.size w _ := (show Below w.heap.size w _ by exact belA)
    refine (implIsSized _ lo hi (some ⟨b0, o0, none⟩) n c x (h.below (show Below w.heap.size w _ by exact belA) hh) (by first | omega | (simp; done) | (simp; omega))).mono ?_
    rintro e w2 ⟨rfl, hb⟩
    have hb2 : Below w.heap.size w w2 := below_then (show Below w.heap.size w _ by exact belA) (by exact belA)
    have q0 := below_cell hb2 d0
    have qx := below_cell hb (show World.cell? _ ⟨w.heap.size, 0, none⟩ = some (.slice (some ⟨b0, o0, none⟩) n c) by simp [go_sem])
    go_wp2_with fail
    go_ret
    exact RetB.mk hn.out.symm hb2
  subst hx0
  go_enter Tryz.func15, Tryz.ntmps15
  go_wp2_with fail
  refine (implIsSized _ lo hi (some ⟨b0, o0, none⟩) n c x (h.below (show Below w.heap.size w _ by exact belA) hh) (by first | omega | (simp; done) | (simp; omega))).mono ?_
  rintro e w2 ⟨rfl, hb⟩
  have hb2 : Below w.heap.size w w2 := below_then (show Below w.heap.size w _ by exact belA) (by exact belA)
  have q0 := below_cell hb2 d0
  have qx := below_cell hb (show World.cell? _ ⟨w.heap.size, 0, none⟩ = some (.slice (some ⟨b0, o0, none⟩) n c) by simp [go_sem])
  have hzw : w.heap.size < w2.heap.size := World.block_lt_of_cell? w2 _ qx
  clear hb
  go_wp2_with fail
  go_loopw [20] (fun i wr => ∃ (k : Nat), k ≤ n ∧ i = .int .i64 k ∧ (x.take k).all (fun c => decide (codeF x c = 0)) = true ∧ Below w2.heap.size w2 wr) (fun i _ => n - (intOf i).toNat)
  case atStart => exact ⟨0, Nat.zero_le _, rfl, rfl, by exact belA⟩
  case round =>
    obtain ⟨k, hk, rfl, ht0, hb⟩ := hrel
    have ht := Lib.hid ht0
    clear ht0
    have qw := below_cell hb qx
    have hzr : w.heap.size < wr.heap.size := World.block_lt_of_cell? wr _ qw
    have hbw := below_then hb2 hb
    have hbs := hb.size
    have hbs2 := hb2.size
    by_cases hlt : k < n
    · have hok := Lib.hid (fun (hp : codeF x (x[k]'(by have := HL.out; omega)) = 0) => all_take_succ (p := fun c => decide (codeF x c = 0)) ht.out (by have := HL.out; omega) (by simpa using hp))
      have hno := Lib.hid (fun (hp : codeF x (x[k]'(by have := HL.out; omega)) ≠ 0) => goodI_bad (x := x) (k := k) (by have := HL.out; omega) hp)
      go_wp2_with fail
      refine (implCheckCode _ lo hi (some ⟨b0, o0, none⟩) n c x k (h.below (below_then hbw (show Below wr.heap.size wr _ by exact belA)) hh) (by first | omega | (simp; done) | (simp; omega)) hlt hmem.out).mono ?_
      rintro e w3 ⟨A5, n5, c5, rfl, hi5, hb5⟩
      have hb6 : Below wr.heap.size wr w3 := by exact belA
      clear hi5 hb5
      generalize codeF x (x[k]'(by have := HL.out; omega)) = v at hok hno ⊢
      by_cases hv : v = 0
      · subst hv
        have hs := Lib.hid (hok.out rfl)
        clear hok hno
        have hb7 := below_then hb hb6
        go_wp2_with fail
        go_roundw
        case rel => exact ⟨k + 1, by omega, by go_num, hs.out, hb7⟩
        case measure => simp [intOf]; omega
      · have hs := Lib.hid (hno.out hv)
        have e1 : (v != 0) = true := by simpa using hv
        have e2 : (v == 0) = false := by simpa using hv
        clear hok hno
        go_wp2_with fail
        go_ret
        exact RetB.mk hs.out.symm (below_then hbw hb6)
    · have hs := Lib.hid (goodI_yes gh.out hp.out (by have := ht.out; rwa [List.take_of_length_le (by have := HL.out; omega)] at this))
      go_wp2_with fail
      go_ret
      exact RetB.mk hs.out.symm hbw
set_option maxHeartbeats 4000000 in
theorem specGoodImage (w : World) (lo hi : Nat) (A : Option Addr) (n c : Nat) (x : List Code) (h : Sl CodeR w lo hi A n c x) (hh : hi ≤ w.heap.size) :
    Calls Tryz.prog 12 #[.agg #[.slice A n c]] w (RetB (goodI x) w) := by
  have HL := Lib.hid h.lenEq
  by_cases g : sizedB x = true
  rotate_left
  · have g : sizedB x = false := by simpa using g
    have hn := Lib.hid (goodI_no g)
    go_enter Tryz.func12, Tryz.ntmps12
    go_wp2_with fail
    refine (specL5Sized _ lo hi A n c x (h.below (show Below w.heap.size w _ by exact belA) hh) (by first | omega | (simp; done) | (simp; omega))).mono ?_
    rintro e w2 ⟨rfl, hb⟩
    go_wp2_with fail
    go_ret
    exact RetB.mk hn.out.symm (below_then (show Below w.heap.size w _ by exact belA) (by exact belA))
  have hlen := sizedB_len g
  rw [HL.out] at hlen
  have hmem := Lib.hid (sizedB_mem g)
  have gh := Lib.hid g
  obtain ⟨b0, o0, x0, x1, A2, n2, c2, s2, A3, n3, c3, s3, A4, n4, c4, s4, rfl, _, hbb, hl, i0, i1, h2, h3, h4, d0, d1, d2, d3, d4⟩ := Code_at h (show 0 < n by omega)
  have hp := parF_at (show 0 < x.length by have := HL.out; omega) hl
  have hp := Lib.hid (show parF x 0 = x0 from hp)
  clear hl h2 h3 h4 d1 d2 d3 d4
  have d0 : w.cell? ⟨b0, o0, none⟩ = some (.int .i64 x0) := by simpa using d0
  by_cases hx0 : x0 = 0
  rotate_left
  · have hn := Lib.hid (goodI_par (x := x) (by rw [hp.out]; exact hx0))
    have e1 : (x0 != 0) = true := by simpa using hx0
    have e2 : (x0 == 0) = false := by simpa using hx0
    go_enter Tryz.func12, Tryz.ntmps12
    go_wp2_with fail
    refine (specL5Sized _ lo hi (some ⟨b0, o0, none⟩) n c x (h.below (show Below w.heap.size w _ by exact belA) hh) (by first | omega | (simp; done) | (simp; omega))).mono ?_
    rintro e w2 ⟨rfl, hb⟩
    have hb2 : Below w.heap.size w w2 := below_then (show Below w.heap.size w _ by exact belA) (by exact belA)
    have q0 := below_cell hb2 d0
    have qx := below_cell hb (show World.cell? _ ⟨w.heap.size, 0, none⟩ = some (.slice (some ⟨b0, o0, none⟩) n c) by simp [go_sem])
    go_wp2_with fail
    go_ret
    exact RetB.mk hn.out.symm hb2
  subst hx0
  go_enter Tryz.func12, Tryz.ntmps12
  go_wp2_with fail
  refine (specL5Sized _ lo hi (some ⟨b0, o0, none⟩) n c x (h.below (show Below w.heap.size w _ by exact belA) hh) (by first | omega | (simp; done) | (simp; omega))).mono ?_
  rintro e w2 ⟨rfl, hb⟩
  have hb2 : Below w.heap.size w w2 := below_then (show Below w.heap.size w _ by exact belA) (by exact belA)
  have q0 := below_cell hb2 d0
  have qx := below_cell hb (show World.cell? _ ⟨w.heap.size, 0, none⟩ = some (.slice (some ⟨b0, o0, none⟩) n c) by simp [go_sem])
  have hzw : w.heap.size < w2.heap.size := World.block_lt_of_cell? w2 _ qx
  clear hb
  go_wp2_with fail
  go_loopw [19] (fun i wr => ∃ (k : Nat), k ≤ n ∧ i = .int .i64 k ∧ (x.take k).all (fun c => decide (codeF x c = 0)) = true ∧ Below w2.heap.size w2 wr) (fun i _ => n - (intOf i).toNat)
  case atStart => exact ⟨0, Nat.zero_le _, rfl, rfl, by exact belA⟩
  case round =>
    obtain ⟨k, hk, rfl, ht0, hb⟩ := hrel
    have ht := Lib.hid ht0
    clear ht0
    have qw := below_cell hb qx
    have hzr : w.heap.size < wr.heap.size := World.block_lt_of_cell? wr _ qw
    have hbw := below_then hb2 hb
    have hbs := hb.size
    have hbs2 := hb2.size
    by_cases hlt : k < n
    · obtain ⟨b', o', y0, y1, A2, n2, c2, t2, A3, n3, c3, t3, A4, n4, c4, t4, he, _, hbb', hl, j0, j1, h2, h3, h4, d0', d1, d2, d3, d4⟩ := Code_at (h.below hbw hh) hlt
      cases he
      have hok := Lib.hid (fun (hp : codeF x (y0, y1, t2, t3, t4) = 0) => all_take_succ (p := fun c => decide (codeF x c = 0)) ht.out (by have := HL.out; omega) (by rw [hl]; simpa using hp))
      have hno := Lib.hid (fun (hp : codeF x (y0, y1, t2, t3, t4) ≠ 0) => goodI_bad (x := x) (k := k) (by have := HL.out; omega) (by rw [hl]; exact hp))
      have hzc := Lib.hid (hmem.out (y0, y1, t2, t3, t4) (hl ▸ List.getElem_mem (l := x) (n := k) (by have := HL.out; omega)))
      have hge := Lib.hid (codeF_ge x (y0, y1, t2, t3, t4))
      clear hl
      go_wp2_with fail
      refine (specL5Code _ lo hi (some ⟨b0, o0, none⟩) n c x y0 y1 A2 A3 A4 n2 c2 n3 c3 n4 c4 t2 t3 t4 (h.below (below_then hbw (show Below wr.heap.size wr _ by exact belA)) hh) (h2.below (show Below wr.heap.size wr _ by exact belA) (by omega)) (h3.below (show Below wr.heap.size wr _ by exact belA) (by omega)) (h4.below (show Below wr.heap.size wr _ by exact belA) (by omega)) (by first | omega | (simp; done) | (simp; omega)) hmem.out hzc.out).mono ?_
      rintro e w3 ⟨rfl, hb5⟩
      have hb6 : Below wr.heap.size wr w3 := by exact belA
      clear hb5
      generalize codeF x (y0, y1, t2, t3, t4) = v at hok hno hge ⊢
      have hge := hge.out
      by_cases hv : v = 0
      · subst hv
        have hs := Lib.hid (hok.out rfl)
        clear hok hno
        have hb7 := below_then hb hb6
        go_wp2_with fail
        go_roundw
        case rel => exact ⟨k + 1, by omega, by go_num, hs.out, hb7⟩
        case measure => simp [intOf]; omega
      · have hs := Lib.hid (hno.out hv)
        clear hok hno
        go_wp2_with fail
        go_ret
        exact RetB.mk hs.out.symm (below_then hbw hb6)
    · have hs := Lib.hid (goodI_yes gh.out hp.out (by have := ht.out; rwa [List.take_of_length_le (by have := HL.out; omega)] at this))
      go_wp2_with fail
      go_ret
      exact RetB.mk hs.out.symm hbw
end Go.Proofs.YtgoinmdnpaknpaaGreat
