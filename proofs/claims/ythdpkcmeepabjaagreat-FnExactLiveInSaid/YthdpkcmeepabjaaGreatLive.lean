/- Which places of a code are reached: walks of both sides. -/
import Derived.Test.YthdpkcmeepabjaaGreatImageI
import Derived.Test.YthdpkcmeepabjaaGreatHeightS
import Derived.Test.YthdpkcmeepabjaaGreatKit1
set_option linter.unusedVariables false
set_option linter.unusedSimpArgs false
set_option maxRecDepth 100000
namespace Go.Proofs.YthdpkcmeepabjaaGreat
open Go.RowKit
def liveL (l : List Int) : List Bool := l.map fun v => decide (v ≥ 0)
noncomputable def liveOk (x : Image) (k : Int) : Bool := goodI x && inB k 0 ((x.length : Int) - 1)
noncomputable def liveR (x : Image) (k : Int) : List Bool := if liveOk x k = true then liveL (checkH x (x.getD k.toNat (0, 0, [], [], []))) else []
theorem liveR_no {x : Image} {k : Int} (h : liveOk x k = false) : liveR x k = [] := by unfold liveR; rw [if_neg (by simp [h])]
theorem liveR_yes {x : Image} {j : Nat} (h : liveOk x (j : Int) = true) (hj : j < x.length) : liveR x (j : Int) = liveL (checkH x x[j]) := by
  unfold liveR; rw [if_pos h]; simp [List.getD, hj]
theorem liveL_len (l : List Int) : (liveL l).length = l.length := by simp [liveL]
theorem liveL_at {l : List Int} {k : Nat} (hk : k < l.length) : (liveL l)[k]'(by rw [liveL_len]; exact hk) = decide (l[k] ≥ 0) := by simp [liveL]
theorem liveL_succ {l : List Int} {k : Nat} (hk : k < l.length) : liveL (l.take (k + 1)) = liveL (l.take k) ++ [decide (l[k] ≥ 0)] := by
  unfold liveL; rw [List.take_succ_eq_append_getElem hk, List.map_append]; rfl
theorem codeF_0 {x : Image} {c : Code} (h : codeF x c = 0) : namedB x c = true ∧ goesB c.2.2.2.1 = true ∧ rowsB c.2.2.2.2 c.2.2.2.1.length = true ∧ ∃ l, heightsF x c.2.2.2.1 c.2.2.2.2 = some l ∧ checkH x c = l := by
  by_cases h1 : namedB x c = true
  rotate_left
  · rw [codeF_1 (by simpa using h1)] at h; omega
  by_cases h2 : c.2.2.1.all (siteB x) = true
  rotate_left
  · rw [codeF_2 h1 (by simpa using h2)] at h; omega
  by_cases h3 : goesB c.2.2.2.1 = true
  rotate_left
  · rw [codeF_3 h1 h2 (by simpa using h3)] at h; omega
  by_cases h4 : rowsB c.2.2.2.2 c.2.2.2.1.length = true
  rotate_left
  · rw [codeF_4 h1 h2 h3 (by simpa using h4)] at h; omega
  refine ⟨h1, h3, h4, ?_⟩
  have h0 := h
  rw [codeF_h h1 h2 h3 h4] at h
  cases hh : heightsF x c.2.2.2.1 c.2.2.2.2 with
  | none => rw [hh] at h; simp at h
  | some l => exact ⟨l, rfl, by unfold checkH; rw [if_pos h0, hh]; rfl⟩
theorem checkH_len {x : Image} {c : Code} (h : codeF x c = 0) : (checkH x c).length = c.2.2.2.1.length ∧ ∀ v, v ∈ checkH x c → I64 v := by
  obtain ⟨_, _, _, l, hl, e⟩ := codeF_0 h
  obtain ⟨h1, h2, h3⟩ := heights_ok hl
  rw [e]
  refine ⟨h1, fun v hvm => ?_⟩
  obtain ⟨i, hi, rfl⟩ := List.getElem_of_mem hvm
  have a := h2 _ (List.getElem_mem hi)
  have b := h3 i
  unfold hv at b
  simp [List.getD, hi] at b
  unfold I64; omega
theorem own_bools {w : World} {base : Nat} {e : TypeId} {v : Value} {l : List Bool} (h : w.ownsRow base e 1 v l.length (l.map Value.bool)) : OwnSl boolR w e v.ownBlock.toList v l := by
  refine ⟨l.map fun x => [.bool x], l.map fun _ => [], ?_, ?_, ?_, ?_⟩
  · have e1 : (l.map fun x => [Value.bool x]).flatten = l.map Value.bool := by
      clear h
      induction l with
      | nil => rfl
      | cons x l ih => simp only [List.map_cons, List.flatten_cons, ih]; rfl
    rw [e1]
    refine ⟨h.1, ?_⟩
    rcases h.2 with h | ⟨g, cap, cur, a, b, r⟩
    · exact .inl h
    · exact .inr ⟨g, cap, cur, a, Nat.zero_le _, r⟩
  · clear h
    induction l with
    | nil => trivial
    | cons x l ih => exact ⟨⟨rfl, rfl, trivial⟩, ih⟩
  · have e2 : (l.map fun _ => ([] : List Nat)).flatten = [] := by
      clear h
      induction l with
      | nil => rfl
      | cons x l ih => simp only [List.map_cons, List.flatten_cons, ih]; rfl
    rw [e2, List.append_nil]
  · cases v.ownBlock <;> simp
theorem RetOwnB.bools {E : TypeId} {l : List Bool} {b b' : Bool} {w w' : World} {v : Value} {base : Nat} (h : w'.ownsRow base E 1 v l.length (l.map Value.bool)) (hz : w.heap.size ≤ base) (he : b' = b) (hb : Below w.heap.size w w') : RetOwnB boolR E l b w (.returned (.tuple #[v, .bool b'])) w' := by
  have ho := own_bools h
  obtain ⟨A, n, c, hv, _⟩ := ho.form
  subst hv
  exact RetOwnB.mk ho (fun k hk => Nat.le_trans hz (h.lt k (by simpa using hk)).1) he hb
set_option maxHeartbeats 8000000 in
theorem implLiveIn (w : World) (lo hi : Nat) (A : Option Addr) (n c : Nat) (x : List Code) (k : Int) (h : Sl CodeR w lo hi A n c x) (hh : hi ≤ w.heap.size) :
    Calls Tryz.prog 11 #[.agg #[.slice A n c], .int .i64 k] w (RetOwnB boolR 4 (liveR x k) (liveOk x k) w) := by
  have HL := Lib.hid h.lenEq
  have hq : liveOk x k = (goodI x && inB k 0 ((n : Int) - 1)) := by unfold liveOk; rw [HL.out]
  have hn1 := h.lenLe
  have qw : IntKind.i64.wrap ((n : Int) - 1) = (n : Int) - 1 := IntWalk.i64_in _ (by omega)
  by_cases g : goodI x = true
  rotate_left
  · have g : goodI x = false := by simpa using g
    have hn0 : liveOk x k = false := by rw [hq, g]; rfl
    have hr := Lib.hid (liveR_no hn0)
    have hn := Lib.hid hn0
    clear hq hn0
    go_enter Tryz.func11, Tryz.ntmps11
    go_wp2_with fail
    refine (implIsImage _ lo hi A n c x (h.below (show Below w.heap.size w _ by (repeat (first | with_reducible exact Below.refl _ _ | with_reducible assumption | with_reducible refine below_alloc ?_ _ | ((with_reducible refine Below.setCell ?_ ?_ _); rotate_left; (· first | exact Nat.le_refl _ | (simp; done) | (simp; omega))) | with_reducible refine below_drewN ?_ _ | with_reducible refine Below.drew ?_ | with_reducible refine below_then ?_ (by with_reducible assumption)))) hh) (by first | omega | (simp; done) | (simp; omega))).mono ?_
    rintro e w2 ⟨rfl, hb⟩
    have hb2 : Below w.heap.size w w2 := below_then (show Below w.heap.size w _ by (repeat (first | with_reducible exact Below.refl _ _ | with_reducible assumption | with_reducible refine below_alloc ?_ _ | ((with_reducible refine Below.setCell ?_ ?_ _); rotate_left; (· first | exact Nat.le_refl _ | (simp; done) | (simp; omega))) | with_reducible refine below_drewN ?_ _ | with_reducible refine Below.drew ?_ | with_reducible refine below_then ?_ (by with_reducible assumption)))) (by (repeat (first | with_reducible exact Below.refl _ _ | with_reducible assumption | with_reducible refine below_alloc ?_ _ | ((with_reducible refine Below.setCell ?_ ?_ _); rotate_left; (· first | exact Nat.le_refl _ | (simp; done) | (simp; omega))) | with_reducible refine below_drewN ?_ _ | with_reducible refine Below.drew ?_ | with_reducible refine below_then ?_ (by with_reducible assumption))))
    go_wp2_with fail
    go_ret2
    exact RetOwnB.nil_ hr.out hn.out.symm hb2
  by_cases g2 : inB k 0 ((n : Int) - 1) = true
  rotate_left
  · have g2 : inB k 0 ((n : Int) - 1) = false := by simpa using g2
    have hn0 : liveOk x k = false := by rw [hq, g2]; simp
    have hr := Lib.hid (liveR_no hn0)
    have hn := Lib.hid hn0
    clear hq hn0
    go_enter Tryz.func11, Tryz.ntmps11
    go_wp2_with fail
    refine (implIsImage _ lo hi A n c x (h.below (show Below w.heap.size w _ by (repeat (first | with_reducible exact Below.refl _ _ | with_reducible assumption | with_reducible refine below_alloc ?_ _ | ((with_reducible refine Below.setCell ?_ ?_ _); rotate_left; (· first | exact Nat.le_refl _ | (simp; done) | (simp; omega))) | with_reducible refine below_drewN ?_ _ | with_reducible refine Below.drew ?_ | with_reducible refine below_then ?_ (by with_reducible assumption)))) hh) (by first | omega | (simp; done) | (simp; omega))).mono ?_
    rintro e w2 ⟨rfl, hb⟩
    have hb2 : Below w.heap.size w w2 := below_then (show Below w.heap.size w _ by (repeat (first | with_reducible exact Below.refl _ _ | with_reducible assumption | with_reducible refine below_alloc ?_ _ | ((with_reducible refine Below.setCell ?_ ?_ _); rotate_left; (· first | exact Nat.le_refl _ | (simp; done) | (simp; omega))) | with_reducible refine below_drewN ?_ _ | with_reducible refine Below.drew ?_ | with_reducible refine below_then ?_ (by with_reducible assumption)))) (by (repeat (first | with_reducible exact Below.refl _ _ | with_reducible assumption | with_reducible refine below_alloc ?_ _ | ((with_reducible refine Below.setCell ?_ ?_ _); rotate_left; (· first | exact Nat.le_refl _ | (simp; done) | (simp; omega))) | with_reducible refine below_drewN ?_ _ | with_reducible refine Below.drew ?_ | with_reducible refine below_then ?_ (by with_reducible assumption))))
    have qx := below_cell hb (show World.cell? _ ⟨w.heap.size, 0, none⟩ = some (.slice A n c) by simp [go_sem])
    go_wp2_with (go_at_call 36; ((with_reducible refine (implWithin _ _ _ _).mono ?_); rintro e w3 ⟨rfl, rfl⟩))
    go_ret2
    exact RetOwnB.nil_ hr.out hn.out.symm hb2
  have hn0 : liveOk x k = true := by rw [hq, g, g2]; rfl
  have hbd := inB_iff.1 g2
  obtain ⟨j, rfl⟩ := Int.eq_ofNat_of_zero_le hbd.1
  have hj : j < n := by omega
  have hjx : j < x.length := by have := HL.out; omega
  have hr := Lib.hid (liveR_yes hn0 hjx)
  have hn := Lib.hid hn0
  clear hq hn0
  obtain ⟨g3, g4, g5⟩ := goodI_iff.1 g
  have hmem := Lib.hid (sizedB_mem g3)
  have hc0 := g5 _ (List.getElem_mem hjx)
  have hln := checkH_len hc0
  have hzc := (codeSz_all (hmem.out _ (List.getElem_mem hjx))).2.2.2.1
  clear g3 g4 g5 hbd
  obtain ⟨l, hl0⟩ : ∃ l, checkH x x[j] = l := ⟨_, rfl⟩
  rw [hl0] at hln
  have hl3 : l.length ≤ 300 := by omega
  have hl64 := Lib.hid hln.2
  have hr := Lib.hid (show liveR x j = liveL l by rw [hr.out, hl0])
  have hl0 := Lib.hid hl0
  clear hln hzc
  obtain ⟨i0, hi0, hz0, hz1, hz2⟩ := info_parts Tryz.infoBool
  go_enter Tryz.func11, Tryz.ntmps11
  go_wp2_with fail
  refine (implIsImage _ lo hi A n c x (h.below (show Below w.heap.size w _ by (repeat (first | with_reducible exact Below.refl _ _ | with_reducible assumption | with_reducible refine below_alloc ?_ _ | ((with_reducible refine Below.setCell ?_ ?_ _); rotate_left; (· first | exact Nat.le_refl _ | (simp; done) | (simp; omega))) | with_reducible refine below_drewN ?_ _ | with_reducible refine Below.drew ?_ | with_reducible refine below_then ?_ (by with_reducible assumption)))) hh) (by first | omega | (simp; done) | (simp; omega))).mono ?_
  rintro e w2 ⟨rfl, hb⟩
  have hb2 : Below w.heap.size w w2 := below_then (show Below w.heap.size w _ by (repeat (first | with_reducible exact Below.refl _ _ | with_reducible assumption | with_reducible refine below_alloc ?_ _ | ((with_reducible refine Below.setCell ?_ ?_ _); rotate_left; (· first | exact Nat.le_refl _ | (simp; done) | (simp; omega))) | with_reducible refine below_drewN ?_ _ | with_reducible refine Below.drew ?_ | with_reducible refine below_then ?_ (by with_reducible assumption)))) (by (repeat (first | with_reducible exact Below.refl _ _ | with_reducible assumption | with_reducible refine below_alloc ?_ _ | ((with_reducible refine Below.setCell ?_ ?_ _); rotate_left; (· first | exact Nat.le_refl _ | (simp; done) | (simp; omega))) | with_reducible refine below_drewN ?_ _ | with_reducible refine Below.drew ?_ | with_reducible refine below_then ?_ (by with_reducible assumption))))
  have qx := below_cell hb (show World.cell? _ ⟨w.heap.size, 0, none⟩ = some (.slice A n c) by simp [go_sem])
  clear hb
  go_wp2_with (go_at_call 36; ((with_reducible refine (implWithin _ _ _ _).mono ?_); rintro e w3 ⟨rfl, rfl⟩))
  refine (implCheckCode _ lo hi A n c x j (h.below (below_then hb2 (show Below w2.heap.size w2 _ by (repeat (first | with_reducible exact Below.refl _ _ | with_reducible assumption | with_reducible refine below_alloc ?_ _ | ((with_reducible refine Below.setCell ?_ ?_ _); rotate_left; (· first | exact Nat.le_refl _ | (simp; done) | (simp; omega))) | with_reducible refine below_drewN ?_ _ | with_reducible refine Below.drew ?_ | with_reducible refine below_then ?_ (by with_reducible assumption))))) hh) (by have := hb2.size; first | omega | (simp; done) | (simp; omega)) hj hmem.out).mono ?_
  rintro e w3 ⟨A5, n5, c5, rfl, hI, hb⟩
  have hb3 : Below w.heap.size w w3 := below_then hb2 (by (repeat (first | with_reducible exact Below.refl _ _ | with_reducible assumption | with_reducible refine below_alloc ?_ _ | ((with_reducible refine Below.setCell ?_ ?_ _); rotate_left; (· first | exact Nat.le_refl _ | (simp; done) | (simp; omega))) | with_reducible refine below_drewN ?_ _ | with_reducible refine Below.drew ?_ | with_reducible refine below_then ?_ (by with_reducible assumption))))
  rw [hl0.out] at hI
  have hS := hI.sl hl64.out
  have hL5 := Lib.hid hS.lenEq
  have hn5 : n5 ≤ 300 := by have := hL5.out; omega
  clear hI hb
  generalize codeF x (x[j]'hjx) = vz
  clear hc0
  have hz3 := hb3.size
  go_wp2_with (at_make; refine wpList_make_full _ rfl _ _ 26 rfl 0 4 i0 (.bool false) 1 Tryz.underlying26 hi0 hz0 hz1 _ _ _ _ n5 rfl rfl rfl rfl (by rw [hz2]; omega) (by unfold maxLen; omega) (Nat.zero_le _) ?_)
  intro w4 hown hg
  have hF := Fill.start (R := boolR) hown
  have hb4 : Below w3.heap.size w3 w4 := (Below.refl _ _).grown hg (Nat.le_refl _) (fun k hk => by cases hk)
  clear hown hg
  go_wp2_with fail
  go_loopw [34] (fun i wr => ∃ k : Nat, k ≤ n5 ∧ i = .int .i64 k ∧ Fill boolR wr 4 [w3.heap.size] w3.heap.size n5 ((liveL l).take k) ∧ Below w3.heap.size w3 wr) (fun i _ => n5 - (intOf i).toNat)
  case atStart => exact ⟨0, Nat.zero_le _, rfl, hF, hb4⟩
  case round =>
    obtain ⟨k, hk, rfl, hF, hb⟩ := hrel
    have hel : (liveL l).length = n5 := by rw [liveL_len]; exact hL5.out
    by_cases hlt : k < n5
    · obtain ⟨b, o, rfl, _, _, hc1, hi1⟩ := (hS.below hb (Nat.le_refl _)).int_at hlt
      have hlk : ((liveL l).take k).length = k := by rw [List.length_take, hel]; omega
      obtain ⟨u0, hu0⟩ : ∃ u, wr.cell? ⟨w3.heap.size, k, none⟩ = some u := by have := hF.cell' hlk hlt (j := 0) (by decide); rwa [show k * boolR.size + 0 = k from Nat.mul_one k] at this
      have f0 := hF.frozen k
      have hat := liveL_at (l := l) (k := k) (by have := hL5.out; omega)
      have hst := hF.step' (Fx := []) (cs := [.bool (decide (l[k]'(by have := hL5.out; omega) ≥ 0))]) hel hlt (by rw [hat]; exact ⟨rfl, rfl, trivial⟩) (by simp)
      rw [show k * boolR.size = k from Nat.mul_one k] at hst
      have hsb := hb.setCell (p := ⟨w3.heap.size, k, none⟩) (Nat.le_refl _) (.bool (decide (l[k]'(by have := hL5.out; omega) ≥ 0)))
      clear hat
      go_wp2_with fail
      go_roundw
      case rel => exact ⟨k + 1, by omega, by go_num, hst, hsb⟩
      case measure => simp [intOf]; omega
    · have hal := hF.all hel (by omega)
      clear hel
      go_wp2_with fail
      go_ret2
      exact RetOwnB.mk (by rw [hr.out]; exact hal) (by simp; omega) hn.out.symm (below_then hb3 hb)
set_option maxHeartbeats 8000000 in
theorem specLiveIn (w : World) (lo hi : Nat) (A : Option Addr) (n c : Nat) (x : List Code) (k : Int) (h : Sl CodeR w lo hi A n c x) (hh : hi ≤ w.heap.size) :
    Calls Tryz.prog 9 #[.agg #[.slice A n c], .int .i64 k] w (RetOwnB boolR 4 (liveR x k) (liveOk x k) w) := by
  have HL := Lib.hid h.lenEq
  have hq : liveOk x k = (goodI x && inB k 0 ((n : Int) - 1)) := by unfold liveOk; rw [HL.out]
  have hn1 := h.lenLe
  have qw : IntKind.i64.wrap ((n : Int) - 1) = (n : Int) - 1 := IntWalk.i64_in _ (by omega)
  by_cases g : goodI x = true
  rotate_left
  · have g : goodI x = false := by simpa using g
    have hn0 : liveOk x k = false := by rw [hq, g]; rfl
    have hr := Lib.hid (liveR_no hn0)
    have hn := Lib.hid hn0
    clear hq hn0
    go_enter Tryz.func9, Tryz.ntmps9
    go_wp2_with fail
    refine (specGoodImage _ lo hi A n c x (h.below (show Below w.heap.size w _ by (repeat (first | with_reducible exact Below.refl _ _ | with_reducible assumption | with_reducible refine below_alloc ?_ _ | ((with_reducible refine Below.setCell ?_ ?_ _); rotate_left; (· first | exact Nat.le_refl _ | (simp; done) | (simp; omega))) | with_reducible refine below_drewN ?_ _ | with_reducible refine Below.drew ?_ | with_reducible refine below_then ?_ (by with_reducible assumption)))) hh) (by first | omega | (simp; done) | (simp; omega))).mono ?_
    rintro e w2 ⟨rfl, hb⟩
    have hb2 : Below w.heap.size w w2 := below_then (show Below w.heap.size w _ by (repeat (first | with_reducible exact Below.refl _ _ | with_reducible assumption | with_reducible refine below_alloc ?_ _ | ((with_reducible refine Below.setCell ?_ ?_ _); rotate_left; (· first | exact Nat.le_refl _ | (simp; done) | (simp; omega))) | with_reducible refine below_drewN ?_ _ | with_reducible refine Below.drew ?_ | with_reducible refine below_then ?_ (by with_reducible assumption)))) (by (repeat (first | with_reducible exact Below.refl _ _ | with_reducible assumption | with_reducible refine below_alloc ?_ _ | ((with_reducible refine Below.setCell ?_ ?_ _); rotate_left; (· first | exact Nat.le_refl _ | (simp; done) | (simp; omega))) | with_reducible refine below_drewN ?_ _ | with_reducible refine Below.drew ?_ | with_reducible refine below_then ?_ (by with_reducible assumption))))
    go_wp2_with fail
    go_ret2
    exact RetOwnB.nil_ hr.out hn.out.symm hb2
  by_cases g2 : inB k 0 ((n : Int) - 1) = true
  rotate_left
  · have g2 : inB k 0 ((n : Int) - 1) = false := by simpa using g2
    have hn0 : liveOk x k = false := by rw [hq, g2]; simp
    have hr := Lib.hid (liveR_no hn0)
    have hn := Lib.hid hn0
    clear hq hn0
    go_enter Tryz.func9, Tryz.ntmps9
    go_wp2_with fail
    refine (specGoodImage _ lo hi A n c x (h.below (show Below w.heap.size w _ by (repeat (first | with_reducible exact Below.refl _ _ | with_reducible assumption | with_reducible refine below_alloc ?_ _ | ((with_reducible refine Below.setCell ?_ ?_ _); rotate_left; (· first | exact Nat.le_refl _ | (simp; done) | (simp; omega))) | with_reducible refine below_drewN ?_ _ | with_reducible refine Below.drew ?_ | with_reducible refine below_then ?_ (by with_reducible assumption)))) hh) (by first | omega | (simp; done) | (simp; omega))).mono ?_
    rintro e w2 ⟨rfl, hb⟩
    have hb2 : Below w.heap.size w w2 := below_then (show Below w.heap.size w _ by (repeat (first | with_reducible exact Below.refl _ _ | with_reducible assumption | with_reducible refine below_alloc ?_ _ | ((with_reducible refine Below.setCell ?_ ?_ _); rotate_left; (· first | exact Nat.le_refl _ | (simp; done) | (simp; omega))) | with_reducible refine below_drewN ?_ _ | with_reducible refine Below.drew ?_ | with_reducible refine below_then ?_ (by with_reducible assumption)))) (by (repeat (first | with_reducible exact Below.refl _ _ | with_reducible assumption | with_reducible refine below_alloc ?_ _ | ((with_reducible refine Below.setCell ?_ ?_ _); rotate_left; (· first | exact Nat.le_refl _ | (simp; done) | (simp; omega))) | with_reducible refine below_drewN ?_ _ | with_reducible refine Below.drew ?_ | with_reducible refine below_then ?_ (by with_reducible assumption))))
    have qx := below_cell hb (show World.cell? _ ⟨w.heap.size, 0, none⟩ = some (.slice A n c) by simp [go_sem])
    go_wp2_with (go_at_call 32; ((with_reducible refine (specL1In _ _ _ _).mono ?_); rintro e w3 ⟨rfl, rfl⟩))
    go_ret2
    exact RetOwnB.nil_ hr.out hn.out.symm hb2
  have hn0 : liveOk x k = true := by rw [hq, g, g2]; rfl
  have hbd := inB_iff.1 g2
  obtain ⟨j, rfl⟩ := Int.eq_ofNat_of_zero_le hbd.1
  have hj : j < n := by omega
  have hjx : j < x.length := by have := HL.out; omega
  have hr := Lib.hid (liveR_yes hn0 hjx)
  have hn := Lib.hid hn0
  clear hq hn0
  obtain ⟨g3, g4, g5⟩ := goodI_iff.1 g
  have hmem := Lib.hid (sizedB_mem g3)
  have hp := Lib.hid (fun c (hc : c ∈ x) => (codeSz_all (hmem.out c hc)).1)
  have hc0 := g5 _ (List.getElem_mem hjx)
  have hln := checkH_len hc0
  have hcc := codeF_0 hc0
  have hzc := codeSz_all (hmem.out _ (List.getElem_mem hjx))
  obtain ⟨b0, o0, x0, x1, A2, n2, c2, s2, A3, n3, c3, I, A4, n4, c4, rows, rfl, _, hbb, hl, i0', i1', h2, h3, h4, d0, d1, d2, d3, d4⟩ := Code_at h hj
  clear g3 g4 g5 hbd hc0
  rw [hl] at hln hcc hzc
  have hr := Lib.hid (show liveR x j = liveL (checkH x (x0, x1, s2, I, rows)) by rw [hr.out, hl])
  clear hl
  obtain ⟨hnm, hgs, hrw, l, hl1, hl2⟩ := hcc
  simp only at hl1 hln hzc hgs hrw
  have h7 := named_7 hnm hzc.2.2.2.2.2
  simp only at h7
  rw [hl2] at hln
  have hr := Lib.hid (show liveR x j = liveL l by rw [hr.out, hl2])
  have hl1 := Lib.hid hl1
  have L3 := h3.lenEq
  rw [L3] at hrw hln hzc
  have hl3 : l.length ≤ 300 := by omega
  have hl64 := Lib.hid hln.2
  have hnn : 1 ≤ n3 ∧ n3 ≤ 300 := hzc.2.2.2.1
  have h7 := Lib.hid (fun (i : Ins) (hi : i ∈ I) (h : i.1 = 7) => show 0 ≤ i.2 ∧ i.2 < (n : Int) by have := h7 i hi h; have := HL.out; omega)
  have hrw := Lib.hid hrw
  have hgs := Lib.hid hgs
  clear hln hzc hnm hl2 L3
  obtain ⟨inf, hif, hz0, hz1, hz2⟩ := info_parts Tryz.infoBool
  go_enter Tryz.func9, Tryz.ntmps9
  go_wp2_with fail
  refine (specGoodImage _ lo hi (some ⟨b0, o0, none⟩) n c x (h.below (show Below w.heap.size w _ by (repeat (first | with_reducible exact Below.refl _ _ | with_reducible assumption | with_reducible refine below_alloc ?_ _ | ((with_reducible refine Below.setCell ?_ ?_ _); rotate_left; (· first | exact Nat.le_refl _ | (simp; done) | (simp; omega))) | with_reducible refine below_drewN ?_ _ | with_reducible refine Below.drew ?_ | with_reducible refine below_then ?_ (by with_reducible assumption)))) hh) (by first | omega | (simp; done) | (simp; omega))).mono ?_
  rintro e w2 ⟨rfl, hb⟩
  have hb2 : Below w.heap.size w w2 := below_then (show Below w.heap.size w _ by (repeat (first | with_reducible exact Below.refl _ _ | with_reducible assumption | with_reducible refine below_alloc ?_ _ | ((with_reducible refine Below.setCell ?_ ?_ _); rotate_left; (· first | exact Nat.le_refl _ | (simp; done) | (simp; omega))) | with_reducible refine below_drewN ?_ _ | with_reducible refine Below.drew ?_ | with_reducible refine below_then ?_ (by with_reducible assumption)))) (by (repeat (first | with_reducible exact Below.refl _ _ | with_reducible assumption | with_reducible refine below_alloc ?_ _ | ((with_reducible refine Below.setCell ?_ ?_ _); rotate_left; (· first | exact Nat.le_refl _ | (simp; done) | (simp; omega))) | with_reducible refine below_drewN ?_ _ | with_reducible refine Below.drew ?_ | with_reducible refine below_then ?_ (by with_reducible assumption))))
  have qx := below_cell hb (show World.cell? _ ⟨w.heap.size, 0, none⟩ = some (.slice (some ⟨b0, o0, none⟩) n c) by simp [go_sem])
  replace d0 := below_cell hb2 d0
  replace d1 := below_cell hb2 d1
  replace d2 := below_cell hb2 d2
  replace d3 := below_cell hb2 d3
  replace d4 := below_cell hb2 d4
  have hz2' := hb2.size
  clear hb
  go_wp2_with (go_at_call 32; ((with_reducible refine (specL1In _ _ _ _).mono ?_); rintro e w3 ⟨rfl, rfl⟩))
  go_region_with (go_at_call 33; ((with_reducible refine (specL5Heights _ lo hi (some ⟨b0, o0, none⟩) n c x x0 x1 A2 A3 A4 n2 c2 n3 c3 n4 c4 I rows (h.below (below_then hb2 (show Below w2.heap.size w2 _ by (repeat (first | with_reducible exact Below.refl _ _ | with_reducible assumption | with_reducible refine below_alloc ?_ _ | ((with_reducible refine Below.setCell ?_ ?_ _); rotate_left; (· first | exact Nat.le_refl _ | (simp; done) | (simp; omega))) | with_reducible refine below_drewN ?_ _ | with_reducible refine Below.drew ?_ | with_reducible refine below_then ?_ (by with_reducible assumption))))) hh) (h3.below (below_then hb2 (show Below w2.heap.size w2 _ by (repeat (first | with_reducible exact Below.refl _ _ | with_reducible assumption | with_reducible refine below_alloc ?_ _ | ((with_reducible refine Below.setCell ?_ ?_ _); rotate_left; (· first | exact Nat.le_refl _ | (simp; done) | (simp; omega))) | with_reducible refine below_drewN ?_ _ | with_reducible refine Below.drew ?_ | with_reducible refine below_then ?_ (by with_reducible assumption))))) hh) (h4.below (below_then hb2 (show Below w2.heap.size w2 _ by (repeat (first | with_reducible exact Below.refl _ _ | with_reducible assumption | with_reducible refine below_alloc ?_ _ | ((with_reducible refine Below.setCell ?_ ?_ _); rotate_left; (· first | exact Nat.le_refl _ | (simp; done) | (simp; omega))) | with_reducible refine below_drewN ?_ _ | with_reducible refine Below.drew ?_ | with_reducible refine below_then ?_ (by with_reducible assumption))))) hh) (by first | omega | (simp; done) | (simp; omega)) hnn.1 hnn.2 hp.out h7.out hgs.out hrw.out).mono ?_); rintro e w3 ⟨A5, n5, c5, rfl, hI, hb⟩))
  all_goals
    have hb3 : Below w.heap.size w w3 := below_then hb2 (by (repeat (first | with_reducible exact Below.refl _ _ | with_reducible assumption | with_reducible refine below_alloc ?_ _ | ((with_reducible refine Below.setCell ?_ ?_ _); rotate_left; (· first | exact Nat.le_refl _ | (simp; done) | (simp; omega))) | with_reducible refine below_drewN ?_ _ | with_reducible refine Below.drew ?_ | with_reducible refine below_then ?_ (by with_reducible assumption))))
    rw [hl1.out] at hI
    simp only [Option.getD_some, hl1.out, Option.isSome_some] at hI ⊢
    have hS := hI.sl hl64.out
    have hL5 := Lib.hid hS.lenEq
    have hn5 : n5 ≤ 300 := by have := hL5.out; omega
    clear hI hb
    have hz3 := hb3.size
    clear d0 d1 d2 d3 d4 qx
    go_wp2_with fail
    go_loopw [8, 35] (fun v i wr => ∃ k : Nat, k ≤ n5 ∧ i = .int .i64 k ∧ wr.ownsRow w3.heap.size 4 1 v (liveL (l.take k)).length ((liveL (l.take k)).map Value.bool) ∧ Below w3.heap.size w3 wr) (fun _ i _ => n5 - (intOf i).toNat)
    case atStart => exact ⟨0, Nat.zero_le _, rfl, by simpa [liveL] using World.ownsRow_nil _ _ _ _, by (repeat (first | with_reducible exact Below.refl _ _ | with_reducible assumption | with_reducible refine below_alloc ?_ _ | ((with_reducible refine Below.setCell ?_ ?_ _); rotate_left; (· first | exact Nat.le_refl _ | (simp; done) | (simp; omega))) | with_reducible refine below_drewN ?_ _ | with_reducible refine Below.drew ?_ | with_reducible refine below_then ?_ (by with_reducible assumption)))⟩
    case round =>
      obtain ⟨k, hk, rfl, ho, hb⟩ := hrel
      by_cases hlt : k < n5
      · obtain ⟨b, o, rfl, _, _, hc1, hi1⟩ := (hS.below hb (Nat.le_refl _)).int_at hlt
        have hs := Lib.hid (liveL_succ (l := l) (k := k) (by have := hL5.out; omega))
        have hln2 : (liveL (l.take k)).length ≤ k := by rw [liveL_len, List.length_take]; omega
        have hbs := hb.size
        go_wp2_with (at_builtin; refine wpList_append_own _ rfl _ _ 26 rfl w3.heap.size 4 inf (.bool false) 1 1 Tryz.underlying26 hif hz0 hz1 hz2 rfl (by decide) _ _ _ rfl (ho.alloc _) ⟨wr.heap.size, 0, none⟩ 1 1 [.bool (decide (l[k]'(by have := hL5.out; omega) ≥ 0))] rfl rfl (cell_new1 _ _ _ (by simp)) (by simp [Value.oneCell']) (by unfold maxLen; omega) (by omega) (by simp; omega) ?_)
        intro v' w5 hown hgr _
        have hb5 := below_own ho hgr (by (repeat (first | with_reducible exact Below.refl _ _ | with_reducible assumption | with_reducible refine below_alloc ?_ _ | ((with_reducible refine Below.setCell ?_ ?_ _); rotate_left; (· first | exact Nat.le_refl _ | (simp; done) | (simp; omega))) | with_reducible refine below_drewN ?_ _ | with_reducible refine Below.drew ?_ | with_reducible refine below_then ?_ (by with_reducible assumption))))
        have ho2 : w5.ownsRow w3.heap.size 4 1 v' (liveL (l.take (k + 1))).length ((liveL (l.take (k + 1))).map Value.bool) := by
          rw [hs.out]; simpa using hown
        clear hown hgr ho
        go_wp2_with fail
        go_roundw
        case rel => exact ⟨k + 1, by omega, by go_num, ho2, hb5⟩
        case measure => simp [intOf]; omega
      · rw [List.take_of_length_le (by have := hL5.out; omega)] at ho
        go_wp2_with fail
        go_ret2
        exact RetOwnB.bools (by rw [hr.out]; exact ho) hz3 hn.out.symm (below_then hb3 hb)
theorem liveR_le (x : Image) (k : Int) : (liveR x k).length ≤ 300 := by
  unfold liveR
  split
  · rename_i h
    unfold liveOk at h
    rw [Bool.and_eq_true] at h
    obtain ⟨h1, h2⟩ := h
    obtain ⟨h1, h2'⟩ := inB_iff.1 h2
    obtain ⟨j, rfl⟩ := Int.eq_ofNat_of_zero_le h1
    have hj : j < x.length := by omega
    have hg := goodI_iff.1 ‹goodI x = true›
    have hm := List.getElem_mem hj
    have := (checkH_len (hg.2.2 _ hm)).1
    have := (codeSz_all (sizedB_mem hg.1 _ hm)).2.2.2.1
    rw [liveL_len, show x.getD (j : Int).toNat (0, 0, [], [], []) = x[j] by simp [List.getD, hj]]
    omega
  · simp
theorem specLiveInC (w : World) (A0 : Option Addr) (n0 c0 : Nat) (s0 : List Code) (i : Int) (h0 : Sl CodeR w 0 w.heap.size A0 n0 c0 s0) (_ : mszLCode s0 ≤ 1048576) (_ : I64 i) :
    Calls Tryz.prog 9 #[.agg #[.slice A0 n0 c0], .int .i64 i] w (RetSlB boolR (liveR s0 i) (liveOk s0 i) w) :=
  (specLiveIn w _ _ A0 n0 c0 s0 i h0 (Nat.le_refl _)).mono fun _ _ h => h.toSl
theorem implLiveInC (w : World) (A0 : Option Addr) (n0 c0 : Nat) (s0 : List Code) (i : Int) (h0 : Sl CodeR w 0 w.heap.size A0 n0 c0 s0) (_ : mszLCode s0 ≤ 1048576) (_ : I64 i) :
    Calls Tryz.prog 11 #[.agg #[.slice A0 n0 c0], .int .i64 i] w (RetOwnB boolR 4 (liveR s0 i) (liveOk s0 i) w) :=
  implLiveIn w _ _ A0 n0 c0 s0 i h0 (Nat.le_refl _)
end Go.Proofs.YthdpkcmeepabjaaGreat
