/- How high the pile of an expression is at most: walks of both sides. -/
import Derived.Test.YtgagbbhnifkclaaExpr
set_option linter.unusedVariables false
set_option linter.unusedSimpArgs false
set_option maxRecDepth 100000
namespace Go.Proofs.Ytgagbbhnifkclaa
open Go.RowKit

theorem stepH_no1 {vars : Int} {ps : List Int} {h c : Int} {t : Tok} (ht : tokB t vars ps.length = false) : stepH vars ps (some (h, c)) t = none := by simp [stepH, ht]
theorem stepH_no2 {vars : Int} {ps : List Int} {h c : Int} {t : Tok} (hn : c < needF t ps) : stepH vars ps (some (h, c)) t = none := by simp [stepH, hn]
theorem stepH_yes {vars : Int} {ps : List Int} {h c : Int} {t : Tok} (ht : tokB t vars ps.length = true) (hn : ¬ c < needF t ps) : stepH vars ps (some (h, c)) t = some (max h (c + (1 - needF t ps)), c + (1 - needF t ps)) := by simp [stepH, ht, hn]

set_option maxHeartbeats 2000000 in
theorem implHighOf (w : World) (lo hi lo' hi' : Nat) (n c n' c' : Nat) (A A' : Option Addr) (l : List Tok) (v : Int) (ps : List Int) (h : Sl TokR w lo hi A n c l) (h' : Sl intR w lo' hi' A' n' c' ps) (hh : hi ≤ w.heap.size) (hh' : hi' ≤ w.heap.size)
    (hv : 0 ≤ v ∧ v ≤ 100) (hp : goodNeeds ps) (hn' : n' ≤ 100) :
    Calls Try.prog 91 #[.slice A n c, .int .i64 v, .slice A' n' c'] w (RetV (.int .i64 (highF l v ps)) w) := by
  have e1 := h.lenEq
  have e2 := h'.lenEq
  have b1 := h.lenLe
  have HP := Lib.hid hp
  clear hp
  by_cases hg : inB (n : Int) 1 12 = true
  · have hg1 := inB_iff.1 hg
    have gl : 1 ≤ l.length ∧ l.length ≤ 12 := by omega
    have n1 : n ≤ 12 := by omega
    clear hg1
    go_enter Try.func91, Try.ntmps91
    go_wp2_with (go_at_call 105; ((with_reducible refine (implWithin _ _ _ _).mono ?_); rintro e w2 ⟨rfl, rfl⟩))
    go_loopw [7, 8, 17] (fun hs cs i wr => ∃ (k : Nat) (hi' cc : Int), k ≤ n ∧ i = .int .i64 k ∧ hs = .int .i64 hi' ∧ cs = .int .i64 cc ∧ foldH v ps (l.take k) = some (hi', cc) ∧ 0 ≤ cc ∧ cc ≤ k ∧ 0 ≤ hi' ∧ hi' ≤ k ∧ Below w.heap.size w wr) (fun _ _ i _ => n - (intOf i).toNat)
    case atStart => exact ⟨0, 0, 0, Nat.zero_le _, rfl, rfl, rfl, rfl, by omega, by omega, by omega, by omega, Below.refl _ _⟩
    case round =>
      obtain ⟨k, hm, cc, hk, rfl, rfl, rfl, hf0, c0, c1, m0, m1, hb⟩ := hrel
      by_cases hlt : k < n
      · obtain ⟨b, o, x0, x1, rfl, _, _, hl0, i0, i1, d0, d1⟩ := Tok_at (h.below hb hh) hlt
        have hs := foldH_succ (vars := v) (ps := ps) (e := l) (k := k) (by omega)
        rw [hl0, hf0] at hs
        have hsz := hb.size
        have h2 := h'.below hb hh'
        obtain ⟨q1, q2⟩ := needF_bd (t := (x0, x1)) HP.out
        have hdd := Lib.hid (fun (q : stepH v ps (some (hm, cc)) (x0, x1) = none) => highF_dead (e := l) (vars := v) (ps := ps) (k := k + 1) (hs.trans q))
        have hF := Lib.hid hf0
        clear hf0 hl0
        by_cases ht : tokB (x0, x1) v (n' : Int) = true
        · have ht' : tokB (x0, x1) v ps.length = true := by rw [e2]; exact ht
          by_cases hc : cc < needF (x0, x1) ps
          · have hd := Lib.hid (hdd.out (stepH_no2 hc))
            have hcd : decide (needF (x0, x1) ps > cc) = true := by simpa using hc
            clear hs ht'
            go_wp2_with (first
              | (go_at_call 157; ((with_reducible refine (implIsTok _ _ _ _ _ i1 (by omega) (by omega)).mono ?_); rintro e w2 ⟨rfl, hb2⟩; obtain ⟨hcE, hfE⟩ := bcell hb2; have hz2 := hb2.size; simp only [World.size_alloc] at hz2))
              | (go_at_call 158; ((with_reducible refine (implNeeds _ lo' hi' _ _ _ _ _ _ ps (h2.below (show Below wr.heap.size wr _ by (repeat (first | with_reducible exact Below.refl _ _ | with_reducible assumption | with_reducible refine below_alloc ?_ _ | ((with_reducible refine Below.setCell ?_ ?_ _); rotate_left; (· first | exact Nat.le_refl _ | (simp; done) | (simp; omega))) | with_reducible refine below_drewN ?_ _ | with_reducible refine Below.drew ?_ | with_reducible refine below_then ?_ (by with_reducible assumption)))) (by omega)) (by first | omega | (simp; omega)) ht).mono ?_); rintro e w3 ⟨rfl, hb3⟩; obtain ⟨hcE3, hfE3⟩ := bcell hb3; have hz3 := hb3.size)))
            go_ret
            exact ⟨ret_int hd.out.symm, below_then hb (show Below wr.heap.size wr w3 by (repeat (first | with_reducible exact Below.refl _ _ | with_reducible assumption | with_reducible refine below_alloc ?_ _ | ((with_reducible refine Below.setCell ?_ ?_ _); rotate_left; (· first | exact Nat.le_refl _ | (simp; done) | (simp; omega))) | with_reducible refine below_drewN ?_ _ | with_reducible refine Below.drew ?_ | with_reducible refine below_then ?_ (by with_reducible assumption))))⟩
          · have hS := Lib.hid (hs.trans (stepH_yes ht' hc))
            have hcd : decide (needF (x0, x1) ps > cc) = false := by simp; omega
            clear hs ht'
            go_wp2_with fail
            refine (implIsTok _ _ _ _ _ i1 (by omega) (by omega)).mono ?_
            rintro e w2 ⟨rfl, hb2⟩
            obtain ⟨hcE, hfE⟩ := bcell hb2
            have t0 : w2.cell? ⟨wr.heap.size, 0, none⟩ = some (.int .i64 x0) := by simp [hcE, go_sem]
            have t1 : w2.cell? ⟨wr.heap.size, 1, none⟩ = some (.int .i64 x1) := by simp [hcE, go_sem]
            clear hcE hfE
            have hx2 : Below wr.heap.size wr w2 := by (repeat (first | with_reducible exact Below.refl _ _ | with_reducible assumption | with_reducible refine below_alloc ?_ _ | ((with_reducible refine Below.setCell ?_ ?_ _); rotate_left; (· first | exact Nat.le_refl _ | (simp; done) | (simp; omega))) | with_reducible refine below_drewN ?_ _ | with_reducible refine Below.drew ?_ | with_reducible refine below_then ?_ (by with_reducible assumption)))
            have hz2 := hx2.size
            go_wp2_with fail
            refine (implNeeds _ lo' hi' _ _ _ _ _ _ ps (h2.below hx2 (by omega)) (by omega) ht).mono ?_
            rintro e w3 ⟨rfl, hb3⟩
            have t0 := below_cell hb3 t0
            have t1 := below_cell hb3 t1
            have hx3 := below_then hx2 hb3
            have hz3 := hx3.size
            go_wp2_with fail
            refine (implNeeds _ lo' hi' _ _ _ _ _ _ ps (h2.below hx3 (by omega)) (by omega) ht).mono ?_
            rintro e w4 ⟨rfl, hb4⟩
            have hx4 := below_then hx3 hb4
            go_wp2_with fail
            go_roundw
            case rel => exact ⟨k + 1, _, _, by omega, by go_num, by first | rfl | go_num, rfl, hS.out, by omega, by omega, by omega, by omega, below_then hb hx4⟩
            case measure => simp [intOf]; omega
        · have ht : tokB (x0, x1) v (n' : Int) = false := by simpa using ht
          have hd := Lib.hid (hdd.out (stepH_no1 (by rw [e2]; exact ht)))
          clear hs
          go_wp2_with (first
              | (go_at_call 157; ((with_reducible refine (implIsTok _ _ _ _ _ i1 (by omega) (by omega)).mono ?_); rintro e w2 ⟨rfl, hb2⟩)))
          go_ret
          exact ⟨ret_int hd.out.symm, below_then hb (show Below wr.heap.size wr w2 by (repeat (first | with_reducible exact Below.refl _ _ | with_reducible assumption | with_reducible refine below_alloc ?_ _ | ((with_reducible refine Below.setCell ?_ ?_ _); rotate_left; (· first | exact Nat.le_refl _ | (simp; done) | (simp; omega))) | with_reducible refine below_drewN ?_ _ | with_reducible refine Below.drew ?_ | with_reducible refine below_then ?_ (by with_reducible assumption))))⟩
      · have hE := Lib.hid (highF_end (e := l) (vars := v) (ps := ps) (h := hm) (c := cc) (by rwa [List.take_of_length_le (by omega)] at hf0) gl)
        clear hf0
        go_wp2
        all_goals
          go_ret
          exact ⟨ret_int (by rw [hE.out]; simp_all), hb⟩
  · have hg : inB (n : Int) 1 12 = false := by simpa using hg
    have hd := Lib.hid (show highF l v ps = 0 by unfold highF; rw [if_neg]; intro hx; rw [e1] at hx; rw [inB_true (by omega)] at hg; cases hg)
    go_enter Try.func91, Try.ntmps91
    go_wp2_with (go_at_call 105; ((with_reducible refine (implWithin _ _ _ _).mono ?_); rintro e w2 ⟨rfl, rfl⟩))
    go_ret
    exact ⟨ret_int hd.out.symm, by (repeat (first | with_reducible exact Below.refl _ _ | with_reducible assumption | with_reducible refine below_alloc ?_ _ | ((with_reducible refine Below.setCell ?_ ?_ _); rotate_left; (· first | exact Nat.le_refl _ | (simp; done) | (simp; omega))) | with_reducible refine below_drewN ?_ _ | with_reducible refine Below.drew ?_ | with_reducible refine below_then ?_ (by with_reducible assumption)))⟩

def highS (l : List Tok) (v : Int) (ps : List Int) : Int := match foldH v ps l with | some (h, c) => if c = 1 ∧ l.length ≤ 12 then h else -1 | none => -1
theorem highS_dead {e : List Tok} {vars : Int} {ps : List Int} {k : Nat} (h : foldH vars ps (e.take k) = none) : highS e vars ps = -1 := by
  unfold highS; rw [foldH_dead h]
theorem highS_end {e : List Tok} {vars : Int} {ps : List Int} {h c : Int} (hf : foldH vars ps e = some (h, c)) : highS e vars ps = if c = 1 ∧ e.length ≤ 12 then h else -1 := by
  unfold highS; rw [hf]
theorem foldH_nil {vars : Int} {ps : List Int} {h c : Int} (hf : foldH vars ps [] = some (h, c)) : c = 0 := by
  unfold foldH at hf; simp at hf; exact hf.2.symm
theorem highS_F {l : List Tok} {v : Int} {ps : List Int} (hp : 0 < highF l v ps) : highS l v ps = highF l v ps := by
  unfold highF at hp ⊢
  unfold highS
  split at hp
  · rename_i hl
    rw [if_pos hl]
    rcases hf : foldH v ps l with _ | ⟨h, c⟩
    · rw [hf] at hp; simp at hp
    · rw [hf] at hp
      simp only at hp ⊢
      by_cases hc : c = 1
      · rw [if_pos ⟨hc, hl.2⟩, if_pos hc]
      · rw [if_neg hc] at hp; omega
  · omega
theorem highS_pos (l : List Tok) (v : Int) (ps : List Int) : decide (0 < highS l v ps) = decide (0 < highF l v ps) := by
  by_cases hp : 0 < highF l v ps
  · rw [highS_F hp]
  · rw [decide_eq_false hp]
    simp only [decide_eq_false_iff_not]
    unfold highF at hp
    unfold highS
    rcases hf : foldH v ps l with _ | ⟨h, c⟩
    · simp
    · rw [hf] at hp
      simp only at hp ⊢
      by_cases hc : c = 1 ∧ l.length ≤ 12
      · rw [if_pos hc]
        have hl : 1 ≤ l.length := by
          rcases l with _ | ⟨t, l⟩
          · have := foldH_nil hf; omega
          · simp
        rw [if_pos ⟨hl, hc.2⟩, if_pos hc.1] at hp
        exact hp
      · rw [if_neg hc]; omega
set_option maxHeartbeats 2000000 in
theorem specL2High (w : World) (lo hi lo' hi' : Nat) (n c n' c' : Nat) (A A' : Option Addr) (l : List Tok) (v : Int) (ps : List Int) (h : Sl TokR w lo hi A n c l) (h' : Sl intR w lo' hi' A' n' c' ps) (hh : hi ≤ w.heap.size) (hh' : hi' ≤ w.heap.size)
    (hv : 0 ≤ v ∧ v ≤ 100) (hp : goodNeeds ps) (hn' : n' ≤ 100) (hn : n ≤ 1048576) :
    Calls Try.prog 155 #[.slice A n c, .int .i64 v, .slice A' n' c'] w (RetV (.int .i64 (highS l v ps)) w) := by
  have e1 := h.lenEq
  have e2 := h'.lenEq
  have b1 := h.lenLe
  have HP := Lib.hid hp
  clear hp
  go_enter Try.func155, Try.ntmps155
  go_wp2_with fail
  go_loopw [7, 8, 13] (fun cs hs i wr => ∃ (k : Nat) (hi' cc : Int), k ≤ n ∧ i = .int .i64 k ∧ hs = .int .i64 hi' ∧ cs = .int .i64 cc ∧ foldH v ps (l.take k) = some (hi', cc) ∧ 0 ≤ cc ∧ cc ≤ k ∧ 0 ≤ hi' ∧ hi' ≤ k ∧ Below w.heap.size w wr) (fun _ _ i _ => n - (intOf i).toNat)
  case atStart => exact ⟨0, 0, 0, Nat.zero_le _, rfl, rfl, rfl, rfl, by omega, by omega, by omega, by omega, Below.refl _ _⟩
  case round =>
    obtain ⟨k, hm, cc, hk, rfl, rfl, rfl, hf0, c0, c1, m0, m1, hb⟩ := hrel
    by_cases hlt : k < n
    · obtain ⟨b, o, x0, x1, rfl, _, _, hl0, i0, i1, d0, d1⟩ := Tok_at (h.below hb hh) hlt
      have hs := foldH_succ (vars := v) (ps := ps) (e := l) (k := k) (by omega)
      rw [hl0, hf0] at hs
      have hsz := hb.size
      have h2 := h'.below hb hh'
      obtain ⟨q1, q2⟩ := needF_bd (t := (x0, x1)) HP.out
      have hdd := Lib.hid (fun (q : stepH v ps (some (hm, cc)) (x0, x1) = none) => highS_dead (e := l) (vars := v) (ps := ps) (k := k + 1) (hs.trans q))
      have hF := Lib.hid hf0
      clear hf0 hl0
      by_cases ht : tokB (x0, x1) v (n' : Int) = true
      · have ht' : tokB (x0, x1) v ps.length = true := by rw [e2]; exact ht
        have hS := Lib.hid (fun hc => hs.trans (stepH_yes ht' hc))
        have hd := Lib.hid (fun hc => hdd.out (stepH_no2 hc))
        clear hs ht'
        go_wp2_with fail
        refine (specL2Known _ x0 x1 v A' n' c' hv hn').mono ?_
        rintro e w2 ⟨rfl, hb2⟩
        obtain ⟨hcE, hfE⟩ := bcell hb2
        have t0 : w2.cell? ⟨wr.heap.size, 0, none⟩ = some (.int .i64 x0) := by simp [hcE, go_sem]
        have t1 : w2.cell? ⟨wr.heap.size, 1, none⟩ = some (.int .i64 x1) := by simp [hcE, go_sem]
        clear hcE hfE
        have hx2 : Below wr.heap.size wr w2 := by (repeat (first | with_reducible exact Below.refl _ _ | with_reducible assumption | with_reducible refine below_alloc ?_ _ | ((with_reducible refine Below.setCell ?_ ?_ _); rotate_left; (· first | exact Nat.le_refl _ | (simp; done) | (simp; omega))) | with_reducible refine below_drewN ?_ _ | with_reducible refine Below.drew ?_ | with_reducible refine below_then ?_ (by with_reducible assumption)))
        have hz2 := hx2.size
        go_wp2_with fail
        refine (specL2Needs _ lo' hi' x0 x1 v A' n' c' ps (h2.below hx2 (by omega)) (by omega) ht).mono ?_
        rintro e w3 ⟨rfl, hb3⟩
        have t0 := below_cell hb3 t0
        have t1 := below_cell hb3 t1
        have hx3 := below_then hx2 hb3
        have hz3 := hx3.size
        by_cases hc : cc < needF (x0, x1) ps
        · have hd := Lib.hid (hd.out (by omega))
          go_wp2_with fail
          go_ret
          exact ⟨ret_int hd.out.symm, below_then hb hx3⟩
        · have hS := Lib.hid (hS.out (by omega))
          have hcd : decide (cc < needF (x0, x1) ps) = false := by simpa using hc
          go_wp2_with fail
          refine (specL2Needs _ lo' hi' x0 x1 v A' n' c' ps (h2.below hx3 (by omega)) (by omega) ht).mono ?_
          rintro e w4 ⟨rfl, hb4⟩
          have hx4 := below_then hx3 hb4
          go_wp2_with fail
          refine (specL1Most _ _ _).mono ?_
          rintro e w5 ⟨rfl, hb5⟩
          have hx5 := below_then hx4 hb5
          go_wp2_with fail
          go_roundw
          case rel => exact ⟨k + 1, _, _, by omega, by go_num, by first | rfl | go_num, rfl, hS.out, by omega, by omega, by omega, by omega, below_then hb hx5⟩
          case measure => simp [intOf]; omega
      · have ht : tokB (x0, x1) v (n' : Int) = false := by simpa using ht
        have hd := Lib.hid (hdd.out (stepH_no1 (by rw [e2]; exact ht)))
        clear hs
        go_wp2_with fail
        refine (specL2Known _ x0 x1 v A' n' c' hv hn').mono ?_
        rintro e w2 ⟨rfl, hb2⟩
        go_wp2_with fail
        go_ret
        exact ⟨ret_int hd.out.symm, below_then hb (show Below wr.heap.size wr w2 by (repeat (first | with_reducible exact Below.refl _ _ | with_reducible assumption | with_reducible refine below_alloc ?_ _ | ((with_reducible refine Below.setCell ?_ ?_ _); rotate_left; (· first | exact Nat.le_refl _ | (simp; done) | (simp; omega))) | with_reducible refine below_drewN ?_ _ | with_reducible refine Below.drew ?_ | with_reducible refine below_then ?_ (by with_reducible assumption))))⟩
    · have hE := Lib.hid (highS_end (e := l) (vars := v) (ps := ps) (h := hm) (c := cc) (by rwa [List.take_of_length_le (by omega)] at hf0))
      have e1' := Lib.hid e1
      clear hf0 e1
      go_wp2
      all_goals
        go_ret
        exact ⟨ret_int (by rw [hE.out, e1'.out]; first | (rw [if_neg (by omega)]; done) | (rw [if_pos (by simp_all; omega)]; done)), hb⟩
def parB (ps : List Int) : Bool := decide (ps.length ≤ 5) && ps.all fun x => inB x 0 2
theorem parB_good {ps : List Int} (h : parB ps = true) : goodNeeds ps ∧ ps.length ≤ 5 := by
  unfold parB at h
  simp only [Bool.and_eq_true, decide_eq_true_eq, List.all_eq_true] at h
  exact ⟨fun p hp => inB_iff.1 (h.2 p hp), h.1⟩
theorem specL1All (w : World) (lo hi n c : Nat) (A : Option Addr) (l : List Int) (a b : Int) (h : Sl intR w lo hi A n c l) (hh : hi ≤ w.heap.size) :
    Calls Try.prog 133 #[.slice A n c, .int .i64 a, .int .i64 b] w (RetB (l.all fun x => inB x a b) w) := by
  have e1 := h.lenEq
  have b1 := h.lenLe
  go_enter Try.func133, Try.ntmps133
  go_wp2_with fail
  go_loopw [11] (fun i wr => ∃ k : Nat, k ≤ n ∧ i = .int .i64 k ∧ ((l.take k).all fun x => inB x a b) = true ∧ Below w.heap.size w wr) (fun i _ => n - (intOf i).toNat)
  case atStart => exact ⟨0, Nat.zero_le _, rfl, rfl, Below.refl _ _⟩
  case round =>
    obtain ⟨k, hk, rfl, ht0, hb⟩ := hrel
    have ht := Lib.hid ht0
    clear ht0
    by_cases hlt : k < n
    · obtain ⟨b', o, rfl, _, _, hc1, _⟩ := (h.below hb hh).int_at hlt
      generalize hl0 : l[k]'(by omega) = x at hc1
      have hok := Lib.hid (fun (hp : inB x a b = true) => all_take_succ (p := fun x => inB x a b) ht.out (by omega) (by rw [hl0]; exact hp))
      have hno := Lib.hid (fun (hp : inB x a b = false) => all_false (p := fun x => inB x a b) (l := l) (k := k) (by omega) (by rw [hl0]; exact hp))
      clear hl0
      go_wp2_with (go_at_call 100; refine (specL1In _ _ _ _).mono ?_; rintro e w2 ⟨rfl, rfl⟩)
      all_goals first
        | (go_roundw
           case rel => exact ⟨k + 1, by omega, by go_num, hok.out (by simp_all), by (repeat (first | with_reducible exact Below.refl _ _ | with_reducible assumption | with_reducible refine below_alloc ?_ _ | ((with_reducible refine Below.setCell ?_ ?_ _); rotate_left; (· first | exact Nat.le_refl _ | (simp; done) | (simp; omega))) | with_reducible refine below_drewN ?_ _ | with_reducible refine Below.drew ?_ | with_reducible refine below_then ?_ (by with_reducible assumption)))⟩
           case measure => simp [intOf]; omega)
        | (go_ret
           exact RetB.mk (by rw [hno.out (by simp_all)]) (by (repeat (first | with_reducible exact Below.refl _ _ | with_reducible assumption | with_reducible refine below_alloc ?_ _ | ((with_reducible refine Below.setCell ?_ ?_ _); rotate_left; (· first | exact Nat.le_refl _ | (simp; done) | (simp; omega))) | with_reducible refine below_drewN ?_ _ | with_reducible refine Below.drew ?_ | with_reducible refine below_then ?_ (by with_reducible assumption)))))
    · go_wp2
      go_ret
      exact RetB.mk (by rw [List.take_of_length_le (by omega)] at ht; rw [ht.out]) hb
theorem specL2Params (w : World) (lo hi n c : Nat) (A : Option Addr) (l : List Int) (h : Sl intR w lo hi A n c l) (hh : hi ≤ w.heap.size) :
    Calls Try.prog 154 #[.slice A n c] w (RetB (parB l) w) := by
  have e1 := h.lenEq
  by_cases hn : n ≤ 5
  · have hd : decide ((n : Int) ≤ 5) = true := by simp; omega
    have hq := Lib.hid (show parB l = l.all fun x => inB x 0 2 by simp [parB, e1, hn])
    go_enter Try.func154, Try.ntmps154
    go_wp2_with (go_at_call 133; refine (specL1All _ lo hi _ _ _ l _ _ h hh).mono ?_; rintro e w2 ⟨rfl, hb⟩)
    go_ret
    exact RetB.mk hq.out.symm (by (repeat (first | with_reducible exact Below.refl _ _ | with_reducible assumption | with_reducible refine below_alloc ?_ _ | ((with_reducible refine Below.setCell ?_ ?_ _); rotate_left; (· first | exact Nat.le_refl _ | (simp; done) | (simp; omega))) | with_reducible refine below_drewN ?_ _ | with_reducible refine Below.drew ?_ | with_reducible refine below_then ?_ (by with_reducible assumption))))
  · have hd : decide ((n : Int) ≤ 5) = false := by simp; omega
    have hq := Lib.hid (show parB l = false by simp [parB, e1, hn])
    go_enter Try.func154, Try.ntmps154
    go_wp2_with fail
    go_ret
    exact RetB.mk hq.out.symm (by (repeat (first | with_reducible exact Below.refl _ _ | with_reducible assumption | with_reducible refine below_alloc ?_ _ | ((with_reducible refine Below.setCell ?_ ?_ _); rotate_left; (· first | exact Nat.le_refl _ | (simp; done) | (simp; omega))) | with_reducible refine below_drewN ?_ _ | with_reducible refine Below.drew ?_ | with_reducible refine below_then ?_ (by with_reducible assumption))))
theorem areParams1 (w : World) (x : Int) : Calls Try.prog 213 #[.int .i64 x] w (RetB (!inB x 0 2) w) := by
  go_enter Try.func213, Try.ntmps213
  go_wp2_with (go_at_call 105; refine (implWithin _ _ _ _).mono ?_; rintro e w2 ⟨rfl, rfl⟩)
  go_ret
  exact RetB.mk rfl (by (repeat (first | with_reducible exact Below.refl _ _ | with_reducible assumption | with_reducible refine below_alloc ?_ _ | ((with_reducible refine Below.setCell ?_ ?_ _); rotate_left; (· first | exact Nat.le_refl _ | (simp; done) | (simp; omega))) | with_reducible refine below_drewN ?_ _ | with_reducible refine Below.drew ?_ | with_reducible refine below_then ?_ (by with_reducible assumption))))
theorem implAreParams (w : World) (lo hi n c : Nat) (A : Option Addr) (l : List Int) (h : Sl intR w lo hi A n c l) (hh : hi ≤ w.heap.size) :
    Calls Try.prog 170 #[.slice A n c] w (RetB (parB l) w) := by
  have e1 := h.lenEq
  by_cases hn : n ≤ 5
  · have hd : decide ((n : Int) ≤ 5) = true := by simp; omega
    have hq := Lib.hid (show parB l = l.all fun x => inB x 0 2 by simp [parB, e1, hn])
    go_enter Try.func170, Try.ntmps170
    go_wp2_with fail
    refine (conFuncInt 213 #[] (fun x => !inB x 0 2) _ lo hi n c A l h hh (fun _ _ => by kernel_rfl) (fun W x _ _ _ => areParams1 W x)).mono ?_
    rintro e w2 ⟨rfl, hb⟩
    go_wp2_with fail
    go_ret
    exact RetB.mk (by rw [hq.out, ← any_not_all]) hb
  · have hd : decide ((n : Int) ≤ 5) = false := by simp; omega
    have hq := Lib.hid (show parB l = false by simp [parB, e1, hn])
    go_enter Try.func170, Try.ntmps170
    go_wp2_with fail
    go_ret
    exact RetB.mk hq.out.symm (by (repeat (first | with_reducible exact Below.refl _ _ | with_reducible assumption | with_reducible refine below_alloc ?_ _ | ((with_reducible refine Below.setCell ?_ ?_ _); rotate_left; (· first | exact Nat.le_refl _ | (simp; done) | (simp; omega))) | with_reducible refine below_drewN ?_ _ | with_reducible refine Below.drew ?_ | with_reducible refine below_then ?_ (by with_reducible assumption))))
def goodE (l : List Tok) (v : Int) (ps : List Int) : Bool := inB v 0 6 && parB ps && decide (0 < highF l v ps)
theorem specGoodExpr (w : World) (lo hi lo' hi' : Nat) (n c n' c' : Nat) (A A' : Option Addr) (l : List Tok) (v : Int) (ps : List Int) (h : Sl TokR w lo hi A n c l) (h' : Sl intR w lo' hi' A' n' c' ps) (hh : hi ≤ w.heap.size) (hh' : hi' ≤ w.heap.size) (hn : n ≤ 1048576) :
    Calls Try.prog 88 #[.slice A n c, .int .i64 v, .slice A' n' c'] w (RetB (goodE l v ps) w) := by
  have e2 := h'.lenEq
  have hq0 : goodE l v ps = (inB v 0 6 && parB ps && decide (0 < highS l v ps)) := by rw [highS_pos]; rfl
  have hq := Lib.hid hq0
  clear hq0
  by_cases hv : inB v 0 6 = true
  · by_cases hp : parB ps = true
    · obtain ⟨g1, g2⟩ := parB_good hp
      have g1 := Lib.hid g1
      have v1 := inB_iff.1 hv
      go_enter Try.func88, Try.ntmps88
      go_wp2_with (first
        | (go_at_call 100; ((with_reducible refine (specL1In _ _ _ _).mono ?_); rintro e w2 ⟨rfl, rfl⟩))
        | (go_at_call 154; ((with_reducible refine (specL2Params _ lo' hi' _ _ _ ps h' hh').mono ?_); rintro e w2 ⟨rfl, hb⟩))
        | (go_at_call 155; ((with_reducible refine (specL2High _ lo hi lo' hi' _ _ _ _ _ _ l _ ps (h.below hb hh) (h'.below hb hh') (by have := hb.size; omega) (by have := hb.size; omega) (by omega) g1.out (by omega) hn).mono ?_); rintro e w3 ⟨rfl, hb3⟩)))
      go_ret
      exact RetB.mk (by rw [hq.out]; simp_all) (below_then hb hb3)
    · have hp : parB ps = false := by simpa using hp
      go_enter Try.func88, Try.ntmps88
      go_wp2_with (first
        | (go_at_call 100; ((with_reducible refine (specL1In _ _ _ _).mono ?_); rintro e w2 ⟨rfl, rfl⟩))
        | (go_at_call 154; ((with_reducible refine (specL2Params _ lo' hi' _ _ _ ps h' hh').mono ?_); rintro e w2 ⟨rfl, hb⟩)))
      go_ret
      exact RetB.mk (by rw [hq.out]; simp_all) hb
  · have hv : inB v 0 6 = false := by simpa using hv
    go_enter Try.func88, Try.ntmps88
    go_wp2_with (go_at_call 100; ((with_reducible refine (specL1In _ _ _ _).mono ?_); rintro e w2 ⟨rfl, rfl⟩))
    go_ret
    exact RetB.mk (by rw [hq.out]; simp_all) (by (repeat (first | with_reducible exact Below.refl _ _ | with_reducible assumption | with_reducible refine below_alloc ?_ _ | ((with_reducible refine Below.setCell ?_ ?_ _); rotate_left; (· first | exact Nat.le_refl _ | (simp; done) | (simp; omega))) | with_reducible refine below_drewN ?_ _ | with_reducible refine Below.drew ?_ | with_reducible refine below_then ?_ (by with_reducible assumption))))
end Go.Proofs.Ytgagbbhnifkclaa
