/- The code of an expression; a site's number: walks of both sides. Printed by lowgen.py. -/
import Derived.Test.YtgagbbhnifkclaaLowP
import Derived.Test.YtgagbbhnifkclaaFlatK
set_option linter.unusedVariables false
set_option linter.unusedSimpArgs false
set_option maxRecDepth 100000
namespace Go.Proofs.Ytgagbbhnifkclaa
open Go.RowKit
/-- What is asked of an expression's tokens. -/
def lowT (ex : List Tok) : Prop := ∀ t, t ∈ ex → (0 ≤ t.1 ∧ t.1 ≤ 11) ∧ I64 t.2 ∧ ((t.1 = 9 ∨ t.1 = 10) → t.2 = 0)
theorem lowT_ok {ex : List Tok} (h : lowT ex) : ∀ x, x ∈ ex.map tokIns → okI x := by
  intro x hx
  obtain ⟨t, ht, rfl⟩ := List.mem_map.1 hx
  exact tokIns_ok ⟨(h t ht).1, (h t ht).2.1⟩
theorem take_map_succ {α β : Type} {f : α → β} {l : List α} {k : Nat} {y : β} (hk : k < l.length) (h : f l[k] = y) : (l.take (k + 1)).map f = (l.take k).map f ++ [y] := by
  rw [List.take_succ_eq_append_getElem hk, List.map_append, List.map_cons, List.map_nil, h]
theorem range12 {x : Int} (h0 : 0 ≤ x) (h1 : x ≤ 11) : x = 0 ∨ x = 1 ∨ x = 2 ∨ x = 3 ∨ x = 4 ∨ x = 5 ∨ x = 6 ∨ x = 7 ∨ x = 8 ∨ x = 9 ∨ x = 10 ∨ x = 11 := by omega
theorem specL6Tok (w : World) (x0 x1 : Int) (q0 : 0 ≤ x0) (q1 : x0 ≤ 11) :
    Calls Try.prog 264 #[.agg #[.int .i64 x0, .int .i64 x1]] w fun e w' => e = .returned (.agg #[.int .i64 (tokIns (x0, x1)).1, .int .i64 (tokIns (x0, x1)).2]) ∧ Below w.heap.size w w' := by
  rcases range12 q0 q1 with rfl | rfl | rfl | rfl | rfl | rfl | rfl | rfl | rfl | rfl | rfl | rfl
  · rw [show tokIns (0, x1) = (4, 0) from rfl]
    go_enter Try.func264, Try.ntmps264
    go_wp2_with fail
    refine bodyPost_ret (v := .agg #[.int .i64 4, .int .i64 0]) (by simp [results, Try.results264, go_sem]) rfl ⟨rfl, by (repeat (first | with_reducible exact Below.refl _ _ | with_reducible assumption | with_reducible refine below_alloc ?_ _ | ((with_reducible refine Below.setCell ?_ ?_ _); rotate_left; (· first | exact Nat.le_refl _ | (simp; done) | (simp; omega))) | with_reducible refine below_drewN ?_ _ | with_reducible refine Below.drew ?_ | with_reducible refine below_then ?_ (by with_reducible assumption)))⟩
  · rw [show tokIns (1, x1) = (1, x1) from rfl]
    go_enter Try.func264, Try.ntmps264
    go_wp2_with fail
    refine bodyPost_ret (v := .agg #[.int .i64 1, .int .i64 x1]) (by simp [results, Try.results264, go_sem]) rfl ⟨rfl, by (repeat (first | with_reducible exact Below.refl _ _ | with_reducible assumption | with_reducible refine below_alloc ?_ _ | ((with_reducible refine Below.setCell ?_ ?_ _); rotate_left; (· first | exact Nat.le_refl _ | (simp; done) | (simp; omega))) | with_reducible refine below_drewN ?_ _ | with_reducible refine Below.drew ?_ | with_reducible refine below_then ?_ (by with_reducible assumption)))⟩
  · rw [show tokIns (2, x1) = (2, x1) from rfl]
    go_enter Try.func264, Try.ntmps264
    go_wp2_with fail
    refine bodyPost_ret (v := .agg #[.int .i64 2, .int .i64 x1]) (by simp [results, Try.results264, go_sem]) rfl ⟨rfl, by (repeat (first | with_reducible exact Below.refl _ _ | with_reducible assumption | with_reducible refine below_alloc ?_ _ | ((with_reducible refine Below.setCell ?_ ?_ _); rotate_left; (· first | exact Nat.le_refl _ | (simp; done) | (simp; omega))) | with_reducible refine below_drewN ?_ _ | with_reducible refine Below.drew ?_ | with_reducible refine below_then ?_ (by with_reducible assumption)))⟩
  · rw [show tokIns (3, x1) = (4, 3) from rfl]
    go_enter Try.func264, Try.ntmps264
    go_wp2_with fail
    refine bodyPost_ret (v := .agg #[.int .i64 4, .int .i64 3]) (by simp [results, Try.results264, go_sem]) rfl ⟨rfl, by (repeat (first | with_reducible exact Below.refl _ _ | with_reducible assumption | with_reducible refine below_alloc ?_ _ | ((with_reducible refine Below.setCell ?_ ?_ _); rotate_left; (· first | exact Nat.le_refl _ | (simp; done) | (simp; omega))) | with_reducible refine below_drewN ?_ _ | with_reducible refine Below.drew ?_ | with_reducible refine below_then ?_ (by with_reducible assumption)))⟩
  · rw [show tokIns (4, x1) = (4, 4) from rfl]
    go_enter Try.func264, Try.ntmps264
    go_wp2_with fail
    refine bodyPost_ret (v := .agg #[.int .i64 4, .int .i64 4]) (by simp [results, Try.results264, go_sem]) rfl ⟨rfl, by (repeat (first | with_reducible exact Below.refl _ _ | with_reducible assumption | with_reducible refine below_alloc ?_ _ | ((with_reducible refine Below.setCell ?_ ?_ _); rotate_left; (· first | exact Nat.le_refl _ | (simp; done) | (simp; omega))) | with_reducible refine below_drewN ?_ _ | with_reducible refine Below.drew ?_ | with_reducible refine below_then ?_ (by with_reducible assumption)))⟩
  · rw [show tokIns (5, x1) = (4, 5) from rfl]
    go_enter Try.func264, Try.ntmps264
    go_wp2_with fail
    refine bodyPost_ret (v := .agg #[.int .i64 4, .int .i64 5]) (by simp [results, Try.results264, go_sem]) rfl ⟨rfl, by (repeat (first | with_reducible exact Below.refl _ _ | with_reducible assumption | with_reducible refine below_alloc ?_ _ | ((with_reducible refine Below.setCell ?_ ?_ _); rotate_left; (· first | exact Nat.le_refl _ | (simp; done) | (simp; omega))) | with_reducible refine below_drewN ?_ _ | with_reducible refine Below.drew ?_ | with_reducible refine below_then ?_ (by with_reducible assumption)))⟩
  · rw [show tokIns (6, x1) = (4, 6) from rfl]
    go_enter Try.func264, Try.ntmps264
    go_wp2_with fail
    refine bodyPost_ret (v := .agg #[.int .i64 4, .int .i64 6]) (by simp [results, Try.results264, go_sem]) rfl ⟨rfl, by (repeat (first | with_reducible exact Below.refl _ _ | with_reducible assumption | with_reducible refine below_alloc ?_ _ | ((with_reducible refine Below.setCell ?_ ?_ _); rotate_left; (· first | exact Nat.le_refl _ | (simp; done) | (simp; omega))) | with_reducible refine below_drewN ?_ _ | with_reducible refine Below.drew ?_ | with_reducible refine below_then ?_ (by with_reducible assumption)))⟩
  · rw [show tokIns (7, x1) = (4, 7) from rfl]
    go_enter Try.func264, Try.ntmps264
    go_wp2_with fail
    refine bodyPost_ret (v := .agg #[.int .i64 4, .int .i64 7]) (by simp [results, Try.results264, go_sem]) rfl ⟨rfl, by (repeat (first | with_reducible exact Below.refl _ _ | with_reducible assumption | with_reducible refine below_alloc ?_ _ | ((with_reducible refine Below.setCell ?_ ?_ _); rotate_left; (· first | exact Nat.le_refl _ | (simp; done) | (simp; omega))) | with_reducible refine below_drewN ?_ _ | with_reducible refine Below.drew ?_ | with_reducible refine below_then ?_ (by with_reducible assumption)))⟩
  · rw [show tokIns (8, x1) = (4, 8) from rfl]
    go_enter Try.func264, Try.ntmps264
    go_wp2_with fail
    refine bodyPost_ret (v := .agg #[.int .i64 4, .int .i64 8]) (by simp [results, Try.results264, go_sem]) rfl ⟨rfl, by (repeat (first | with_reducible exact Below.refl _ _ | with_reducible assumption | with_reducible refine below_alloc ?_ _ | ((with_reducible refine Below.setCell ?_ ?_ _); rotate_left; (· first | exact Nat.le_refl _ | (simp; done) | (simp; omega))) | with_reducible refine below_drewN ?_ _ | with_reducible refine Below.drew ?_ | with_reducible refine below_then ?_ (by with_reducible assumption)))⟩
  · rw [show tokIns (9, x1) = (5, 0) from rfl]
    go_enter Try.func264, Try.ntmps264
    go_wp2_with fail
    refine bodyPost_ret (v := .agg #[.int .i64 5, .int .i64 0]) (by simp [results, Try.results264, go_sem]) rfl ⟨rfl, by (repeat (first | with_reducible exact Below.refl _ _ | with_reducible assumption | with_reducible refine below_alloc ?_ _ | ((with_reducible refine Below.setCell ?_ ?_ _); rotate_left; (· first | exact Nat.le_refl _ | (simp; done) | (simp; omega))) | with_reducible refine below_drewN ?_ _ | with_reducible refine Below.drew ?_ | with_reducible refine below_then ?_ (by with_reducible assumption)))⟩
  · rw [show tokIns (10, x1) = (6, 0) from rfl]
    go_enter Try.func264, Try.ntmps264
    go_wp2_with fail
    refine bodyPost_ret (v := .agg #[.int .i64 6, .int .i64 0]) (by simp [results, Try.results264, go_sem]) rfl ⟨rfl, by (repeat (first | with_reducible exact Below.refl _ _ | with_reducible assumption | with_reducible refine below_alloc ?_ _ | ((with_reducible refine Below.setCell ?_ ?_ _); rotate_left; (· first | exact Nat.le_refl _ | (simp; done) | (simp; omega))) | with_reducible refine below_drewN ?_ _ | with_reducible refine Below.drew ?_ | with_reducible refine below_then ?_ (by with_reducible assumption)))⟩
  · rw [show tokIns (11, x1) = (7, x1) from rfl]
    go_enter Try.func264, Try.ntmps264
    go_wp2_with fail
    refine bodyPost_ret (v := .agg #[.int .i64 7, .int .i64 x1]) (by simp [results, Try.results264, go_sem]) rfl ⟨rfl, by (repeat (first | with_reducible exact Below.refl _ _ | with_reducible assumption | with_reducible refine below_alloc ?_ _ | ((with_reducible refine Below.setCell ?_ ?_ _); rotate_left; (· first | exact Nat.le_refl _ | (simp; done) | (simp; omega))) | with_reducible refine below_drewN ?_ _ | with_reducible refine Below.drew ?_ | with_reducible refine below_then ?_ (by with_reducible assumption)))⟩
set_option maxHeartbeats 4000000 in
theorem implLowerExpr (w : World) (lo hi : Nat) (A : Option Addr) (n c : Nat) (l : List Tok) (h : Sl TokR w lo hi A n c l) (hh : hi ≤ w.heap.size) (hn : n ≤ 1048576) (ht : lowT l) :
    Calls Try.prog 253 #[.slice A n c] w (RetOwn InsR 165 (l.map tokIns) w) := by
  have e1 := h.lenEq
  have HT := Lib.hid ht
  have HO := Lib.hid (lowT_ok ht)
  clear ht
  go_enter Try.func253, Try.ntmps253
  go_wp2_with fail
  go_loopw [3, 9] (fun v i wr => ∃ k : Nat, k ≤ n ∧ i = .int .i64 k ∧ InsRow wr w.heap.size v ((l.take k).map tokIns) ∧ Below w.heap.size w wr) (fun _ i _ => n - (intOf i).toNat)
  case atStart => exact ⟨0, Nat.zero_le _, rfl, InsRow.nil_ _ _, Below.refl _ _⟩
  case round =>
    obtain ⟨k, hk, rfl, ho, hb⟩ := hrel
    by_cases hlt : k < n
    · obtain ⟨b, o, x0, x1, rfl, _, _, hl0, i0, i1, d0, d1⟩ := Tok_at (h.below hb hh) hlt
      have hx := HT.out _ (List.getElem_mem (by omega : k < l.length))
      have hs := fun y => take_map_succ (f := tokIns) (y := y) (l := l) (k := k) (by omega)
      rw [hl0] at hx hs
      obtain ⟨⟨q0, q1⟩, _, q2⟩ := hx
      have hbs := hb.size
      have hln : ((l.take k).map tokIns).length ≤ 1048576 := by simp; omega
      clear hl0
      obtain ⟨ys, hys0⟩ : ∃ ys, ys = (l.take k).map tokIns := ⟨_, rfl⟩
      rw [← hys0] at ho hs hln
      have HS := Lib.hid hs
      clear hs hys0
      rcases range12 q0 q1 with rfl | rfl | rfl | rfl | rfl | rfl | rfl | rfl | rfl | rfl | rfl | rfl
      · have hs := Lib.hid (HS.out (4, 0) rfl)
        clear HS q2
        go_wp2_with (at_builtin; refine wpl_app1 _ rfl _ _ rfl w.heap.size _ ys rfl (ho.below (show Below wr.heap.size wr _ by (repeat (first | with_reducible exact Below.refl _ _ | with_reducible assumption | with_reducible refine below_alloc ?_ _ | ((with_reducible refine Below.setCell ?_ ?_ _); rotate_left; (· first | exact Nat.le_refl _ | (simp; done) | (simp; omega))) | with_reducible refine below_drewN ?_ _ | with_reducible refine Below.drew ?_ | with_reducible refine below_then ?_ (by with_reducible assumption))))) ⟨wr.heap.size + 2, 0, none⟩ 1 4 0 rfl (cell_new2 _ _ _ _ (by simp)) (by omega) (by simp; omega) ?_)
        intro v' w2 hown hgr hat
        have hb2 : Below w.heap.size w w2 := (below_then hb (show Below wr.heap.size wr _ by (repeat (first | with_reducible exact Below.refl _ _ | with_reducible assumption | with_reducible refine below_alloc ?_ _ | ((with_reducible refine Below.setCell ?_ ?_ _); rotate_left; (· first | exact Nat.le_refl _ | (simp; done) | (simp; omega))) | with_reducible refine below_drewN ?_ _ | with_reducible refine Below.drew ?_ | with_reducible refine below_then ?_ (by with_reducible assumption))))).grown hgr (by simp; omega) (fun g hg => (ho.lt g hg).1)
        rw [← hs.out] at hown
        clear hgr hat ho
        go_wp2_with fail
        go_roundw
        case rel => exact ⟨k + 1, by omega, by go_num, hown, hb2⟩
        case measure => simp [intOf]; omega
      · have hs := Lib.hid (HS.out (1, x1) rfl)
        clear HS q2
        go_wp2_with (at_builtin; refine wpl_app1 _ rfl _ _ rfl w.heap.size _ ys rfl (ho.below (show Below wr.heap.size wr _ by (repeat (first | with_reducible exact Below.refl _ _ | with_reducible assumption | with_reducible refine below_alloc ?_ _ | ((with_reducible refine Below.setCell ?_ ?_ _); rotate_left; (· first | exact Nat.le_refl _ | (simp; done) | (simp; omega))) | with_reducible refine below_drewN ?_ _ | with_reducible refine Below.drew ?_ | with_reducible refine below_then ?_ (by with_reducible assumption))))) ⟨wr.heap.size + 2, 0, none⟩ 1 1 x1 rfl (cell_new2 _ _ _ _ (by simp)) (by omega) (by simp; omega) ?_)
        intro v' w2 hown hgr hat
        have hb2 : Below w.heap.size w w2 := (below_then hb (show Below wr.heap.size wr _ by (repeat (first | with_reducible exact Below.refl _ _ | with_reducible assumption | with_reducible refine below_alloc ?_ _ | ((with_reducible refine Below.setCell ?_ ?_ _); rotate_left; (· first | exact Nat.le_refl _ | (simp; done) | (simp; omega))) | with_reducible refine below_drewN ?_ _ | with_reducible refine Below.drew ?_ | with_reducible refine below_then ?_ (by with_reducible assumption))))).grown hgr (by simp; omega) (fun g hg => (ho.lt g hg).1)
        rw [← hs.out] at hown
        clear hgr hat ho
        go_wp2_with fail
        go_roundw
        case rel => exact ⟨k + 1, by omega, by go_num, hown, hb2⟩
        case measure => simp [intOf]; omega
      · have hs := Lib.hid (HS.out (2, x1) rfl)
        clear HS q2
        go_wp2_with (at_builtin; refine wpl_app1 _ rfl _ _ rfl w.heap.size _ ys rfl (ho.below (show Below wr.heap.size wr _ by (repeat (first | with_reducible exact Below.refl _ _ | with_reducible assumption | with_reducible refine below_alloc ?_ _ | ((with_reducible refine Below.setCell ?_ ?_ _); rotate_left; (· first | exact Nat.le_refl _ | (simp; done) | (simp; omega))) | with_reducible refine below_drewN ?_ _ | with_reducible refine Below.drew ?_ | with_reducible refine below_then ?_ (by with_reducible assumption))))) ⟨wr.heap.size + 2, 0, none⟩ 1 2 x1 rfl (cell_new2 _ _ _ _ (by simp)) (by omega) (by simp; omega) ?_)
        intro v' w2 hown hgr hat
        have hb2 : Below w.heap.size w w2 := (below_then hb (show Below wr.heap.size wr _ by (repeat (first | with_reducible exact Below.refl _ _ | with_reducible assumption | with_reducible refine below_alloc ?_ _ | ((with_reducible refine Below.setCell ?_ ?_ _); rotate_left; (· first | exact Nat.le_refl _ | (simp; done) | (simp; omega))) | with_reducible refine below_drewN ?_ _ | with_reducible refine Below.drew ?_ | with_reducible refine below_then ?_ (by with_reducible assumption))))).grown hgr (by simp; omega) (fun g hg => (ho.lt g hg).1)
        rw [← hs.out] at hown
        clear hgr hat ho
        go_wp2_with fail
        go_roundw
        case rel => exact ⟨k + 1, by omega, by go_num, hown, hb2⟩
        case measure => simp [intOf]; omega
      · have hs := Lib.hid (HS.out (4, 3) rfl)
        clear HS q2
        go_wp2_with (at_builtin; refine wpl_app1 _ rfl _ _ rfl w.heap.size _ ys rfl (ho.below (show Below wr.heap.size wr _ by (repeat (first | with_reducible exact Below.refl _ _ | with_reducible assumption | with_reducible refine below_alloc ?_ _ | ((with_reducible refine Below.setCell ?_ ?_ _); rotate_left; (· first | exact Nat.le_refl _ | (simp; done) | (simp; omega))) | with_reducible refine below_drewN ?_ _ | with_reducible refine Below.drew ?_ | with_reducible refine below_then ?_ (by with_reducible assumption))))) ⟨wr.heap.size + 2, 0, none⟩ 1 4 3 rfl (cell_new2 _ _ _ _ (by simp)) (by omega) (by simp; omega) ?_)
        intro v' w2 hown hgr hat
        have hb2 : Below w.heap.size w w2 := (below_then hb (show Below wr.heap.size wr _ by (repeat (first | with_reducible exact Below.refl _ _ | with_reducible assumption | with_reducible refine below_alloc ?_ _ | ((with_reducible refine Below.setCell ?_ ?_ _); rotate_left; (· first | exact Nat.le_refl _ | (simp; done) | (simp; omega))) | with_reducible refine below_drewN ?_ _ | with_reducible refine Below.drew ?_ | with_reducible refine below_then ?_ (by with_reducible assumption))))).grown hgr (by simp; omega) (fun g hg => (ho.lt g hg).1)
        rw [← hs.out] at hown
        clear hgr hat ho
        go_wp2_with fail
        go_roundw
        case rel => exact ⟨k + 1, by omega, by go_num, hown, hb2⟩
        case measure => simp [intOf]; omega
      · have hs := Lib.hid (HS.out (4, 4) rfl)
        clear HS q2
        go_wp2_with (at_builtin; refine wpl_app1 _ rfl _ _ rfl w.heap.size _ ys rfl (ho.below (show Below wr.heap.size wr _ by (repeat (first | with_reducible exact Below.refl _ _ | with_reducible assumption | with_reducible refine below_alloc ?_ _ | ((with_reducible refine Below.setCell ?_ ?_ _); rotate_left; (· first | exact Nat.le_refl _ | (simp; done) | (simp; omega))) | with_reducible refine below_drewN ?_ _ | with_reducible refine Below.drew ?_ | with_reducible refine below_then ?_ (by with_reducible assumption))))) ⟨wr.heap.size + 2, 0, none⟩ 1 4 4 rfl (cell_new2 _ _ _ _ (by simp)) (by omega) (by simp; omega) ?_)
        intro v' w2 hown hgr hat
        have hb2 : Below w.heap.size w w2 := (below_then hb (show Below wr.heap.size wr _ by (repeat (first | with_reducible exact Below.refl _ _ | with_reducible assumption | with_reducible refine below_alloc ?_ _ | ((with_reducible refine Below.setCell ?_ ?_ _); rotate_left; (· first | exact Nat.le_refl _ | (simp; done) | (simp; omega))) | with_reducible refine below_drewN ?_ _ | with_reducible refine Below.drew ?_ | with_reducible refine below_then ?_ (by with_reducible assumption))))).grown hgr (by simp; omega) (fun g hg => (ho.lt g hg).1)
        rw [← hs.out] at hown
        clear hgr hat ho
        go_wp2_with fail
        go_roundw
        case rel => exact ⟨k + 1, by omega, by go_num, hown, hb2⟩
        case measure => simp [intOf]; omega
      · have hs := Lib.hid (HS.out (4, 5) rfl)
        clear HS q2
        go_wp2_with (at_builtin; refine wpl_app1 _ rfl _ _ rfl w.heap.size _ ys rfl (ho.below (show Below wr.heap.size wr _ by (repeat (first | with_reducible exact Below.refl _ _ | with_reducible assumption | with_reducible refine below_alloc ?_ _ | ((with_reducible refine Below.setCell ?_ ?_ _); rotate_left; (· first | exact Nat.le_refl _ | (simp; done) | (simp; omega))) | with_reducible refine below_drewN ?_ _ | with_reducible refine Below.drew ?_ | with_reducible refine below_then ?_ (by with_reducible assumption))))) ⟨wr.heap.size + 2, 0, none⟩ 1 4 5 rfl (cell_new2 _ _ _ _ (by simp)) (by omega) (by simp; omega) ?_)
        intro v' w2 hown hgr hat
        have hb2 : Below w.heap.size w w2 := (below_then hb (show Below wr.heap.size wr _ by (repeat (first | with_reducible exact Below.refl _ _ | with_reducible assumption | with_reducible refine below_alloc ?_ _ | ((with_reducible refine Below.setCell ?_ ?_ _); rotate_left; (· first | exact Nat.le_refl _ | (simp; done) | (simp; omega))) | with_reducible refine below_drewN ?_ _ | with_reducible refine Below.drew ?_ | with_reducible refine below_then ?_ (by with_reducible assumption))))).grown hgr (by simp; omega) (fun g hg => (ho.lt g hg).1)
        rw [← hs.out] at hown
        clear hgr hat ho
        go_wp2_with fail
        go_roundw
        case rel => exact ⟨k + 1, by omega, by go_num, hown, hb2⟩
        case measure => simp [intOf]; omega
      · have hs := Lib.hid (HS.out (4, 6) rfl)
        clear HS q2
        go_wp2_with (at_builtin; refine wpl_app1 _ rfl _ _ rfl w.heap.size _ ys rfl (ho.below (show Below wr.heap.size wr _ by (repeat (first | with_reducible exact Below.refl _ _ | with_reducible assumption | with_reducible refine below_alloc ?_ _ | ((with_reducible refine Below.setCell ?_ ?_ _); rotate_left; (· first | exact Nat.le_refl _ | (simp; done) | (simp; omega))) | with_reducible refine below_drewN ?_ _ | with_reducible refine Below.drew ?_ | with_reducible refine below_then ?_ (by with_reducible assumption))))) ⟨wr.heap.size + 2, 0, none⟩ 1 4 6 rfl (cell_new2 _ _ _ _ (by simp)) (by omega) (by simp; omega) ?_)
        intro v' w2 hown hgr hat
        have hb2 : Below w.heap.size w w2 := (below_then hb (show Below wr.heap.size wr _ by (repeat (first | with_reducible exact Below.refl _ _ | with_reducible assumption | with_reducible refine below_alloc ?_ _ | ((with_reducible refine Below.setCell ?_ ?_ _); rotate_left; (· first | exact Nat.le_refl _ | (simp; done) | (simp; omega))) | with_reducible refine below_drewN ?_ _ | with_reducible refine Below.drew ?_ | with_reducible refine below_then ?_ (by with_reducible assumption))))).grown hgr (by simp; omega) (fun g hg => (ho.lt g hg).1)
        rw [← hs.out] at hown
        clear hgr hat ho
        go_wp2_with fail
        go_roundw
        case rel => exact ⟨k + 1, by omega, by go_num, hown, hb2⟩
        case measure => simp [intOf]; omega
      · have hs := Lib.hid (HS.out (4, 7) rfl)
        clear HS q2
        go_wp2_with (at_builtin; refine wpl_app1 _ rfl _ _ rfl w.heap.size _ ys rfl (ho.below (show Below wr.heap.size wr _ by (repeat (first | with_reducible exact Below.refl _ _ | with_reducible assumption | with_reducible refine below_alloc ?_ _ | ((with_reducible refine Below.setCell ?_ ?_ _); rotate_left; (· first | exact Nat.le_refl _ | (simp; done) | (simp; omega))) | with_reducible refine below_drewN ?_ _ | with_reducible refine Below.drew ?_ | with_reducible refine below_then ?_ (by with_reducible assumption))))) ⟨wr.heap.size + 2, 0, none⟩ 1 4 7 rfl (cell_new2 _ _ _ _ (by simp)) (by omega) (by simp; omega) ?_)
        intro v' w2 hown hgr hat
        have hb2 : Below w.heap.size w w2 := (below_then hb (show Below wr.heap.size wr _ by (repeat (first | with_reducible exact Below.refl _ _ | with_reducible assumption | with_reducible refine below_alloc ?_ _ | ((with_reducible refine Below.setCell ?_ ?_ _); rotate_left; (· first | exact Nat.le_refl _ | (simp; done) | (simp; omega))) | with_reducible refine below_drewN ?_ _ | with_reducible refine Below.drew ?_ | with_reducible refine below_then ?_ (by with_reducible assumption))))).grown hgr (by simp; omega) (fun g hg => (ho.lt g hg).1)
        rw [← hs.out] at hown
        clear hgr hat ho
        go_wp2_with fail
        go_roundw
        case rel => exact ⟨k + 1, by omega, by go_num, hown, hb2⟩
        case measure => simp [intOf]; omega
      · have hs := Lib.hid (HS.out (4, 8) rfl)
        clear HS q2
        go_wp2_with (at_builtin; refine wpl_app1 _ rfl _ _ rfl w.heap.size _ ys rfl (ho.below (show Below wr.heap.size wr _ by (repeat (first | with_reducible exact Below.refl _ _ | with_reducible assumption | with_reducible refine below_alloc ?_ _ | ((with_reducible refine Below.setCell ?_ ?_ _); rotate_left; (· first | exact Nat.le_refl _ | (simp; done) | (simp; omega))) | with_reducible refine below_drewN ?_ _ | with_reducible refine Below.drew ?_ | with_reducible refine below_then ?_ (by with_reducible assumption))))) ⟨wr.heap.size + 2, 0, none⟩ 1 4 8 rfl (cell_new2 _ _ _ _ (by simp)) (by omega) (by simp; omega) ?_)
        intro v' w2 hown hgr hat
        have hb2 : Below w.heap.size w w2 := (below_then hb (show Below wr.heap.size wr _ by (repeat (first | with_reducible exact Below.refl _ _ | with_reducible assumption | with_reducible refine below_alloc ?_ _ | ((with_reducible refine Below.setCell ?_ ?_ _); rotate_left; (· first | exact Nat.le_refl _ | (simp; done) | (simp; omega))) | with_reducible refine below_drewN ?_ _ | with_reducible refine Below.drew ?_ | with_reducible refine below_then ?_ (by with_reducible assumption))))).grown hgr (by simp; omega) (fun g hg => (ho.lt g hg).1)
        rw [← hs.out] at hown
        clear hgr hat ho
        go_wp2_with fail
        go_roundw
        case rel => exact ⟨k + 1, by omega, by go_num, hown, hb2⟩
        case measure => simp [intOf]; omega
      · obtain rfl := q2 (by omega)
        have hs := Lib.hid (HS.out (5, 0) rfl)
        clear HS q2
        go_wp2_with (at_builtin; refine wpl_app1 _ rfl _ _ rfl w.heap.size _ ys rfl (ho.below (show Below wr.heap.size wr _ by (repeat (first | with_reducible exact Below.refl _ _ | with_reducible assumption | with_reducible refine below_alloc ?_ _ | ((with_reducible refine Below.setCell ?_ ?_ _); rotate_left; (· first | exact Nat.le_refl _ | (simp; done) | (simp; omega))) | with_reducible refine below_drewN ?_ _ | with_reducible refine Below.drew ?_ | with_reducible refine below_then ?_ (by with_reducible assumption))))) ⟨wr.heap.size + 2, 0, none⟩ 1 5 0 rfl (cell_new2 _ _ _ _ (by simp)) (by omega) (by simp; omega) ?_)
        intro v' w2 hown hgr hat
        have hb2 : Below w.heap.size w w2 := (below_then hb (show Below wr.heap.size wr _ by (repeat (first | with_reducible exact Below.refl _ _ | with_reducible assumption | with_reducible refine below_alloc ?_ _ | ((with_reducible refine Below.setCell ?_ ?_ _); rotate_left; (· first | exact Nat.le_refl _ | (simp; done) | (simp; omega))) | with_reducible refine below_drewN ?_ _ | with_reducible refine Below.drew ?_ | with_reducible refine below_then ?_ (by with_reducible assumption))))).grown hgr (by simp; omega) (fun g hg => (ho.lt g hg).1)
        rw [← hs.out] at hown
        clear hgr hat ho
        go_wp2_with fail
        go_roundw
        case rel => exact ⟨k + 1, by omega, by go_num, hown, hb2⟩
        case measure => simp [intOf]; omega
      · obtain rfl := q2 (by omega)
        have hs := Lib.hid (HS.out (6, 0) rfl)
        clear HS q2
        go_wp2_with (at_builtin; refine wpl_app1 _ rfl _ _ rfl w.heap.size _ ys rfl (ho.below (show Below wr.heap.size wr _ by (repeat (first | with_reducible exact Below.refl _ _ | with_reducible assumption | with_reducible refine below_alloc ?_ _ | ((with_reducible refine Below.setCell ?_ ?_ _); rotate_left; (· first | exact Nat.le_refl _ | (simp; done) | (simp; omega))) | with_reducible refine below_drewN ?_ _ | with_reducible refine Below.drew ?_ | with_reducible refine below_then ?_ (by with_reducible assumption))))) ⟨wr.heap.size + 2, 0, none⟩ 1 6 0 rfl (cell_new2 _ _ _ _ (by simp)) (by omega) (by simp; omega) ?_)
        intro v' w2 hown hgr hat
        have hb2 : Below w.heap.size w w2 := (below_then hb (show Below wr.heap.size wr _ by (repeat (first | with_reducible exact Below.refl _ _ | with_reducible assumption | with_reducible refine below_alloc ?_ _ | ((with_reducible refine Below.setCell ?_ ?_ _); rotate_left; (· first | exact Nat.le_refl _ | (simp; done) | (simp; omega))) | with_reducible refine below_drewN ?_ _ | with_reducible refine Below.drew ?_ | with_reducible refine below_then ?_ (by with_reducible assumption))))).grown hgr (by simp; omega) (fun g hg => (ho.lt g hg).1)
        rw [← hs.out] at hown
        clear hgr hat ho
        go_wp2_with fail
        go_roundw
        case rel => exact ⟨k + 1, by omega, by go_num, hown, hb2⟩
        case measure => simp [intOf]; omega
      · have hs := Lib.hid (HS.out (7, x1) rfl)
        clear HS q2
        go_wp2_with (at_builtin; refine wpl_app1 _ rfl _ _ rfl w.heap.size _ ys rfl (ho.below (show Below wr.heap.size wr _ by (repeat (first | with_reducible exact Below.refl _ _ | with_reducible assumption | with_reducible refine below_alloc ?_ _ | ((with_reducible refine Below.setCell ?_ ?_ _); rotate_left; (· first | exact Nat.le_refl _ | (simp; done) | (simp; omega))) | with_reducible refine below_drewN ?_ _ | with_reducible refine Below.drew ?_ | with_reducible refine below_then ?_ (by with_reducible assumption))))) ⟨wr.heap.size + 2, 0, none⟩ 1 7 x1 rfl (cell_new2 _ _ _ _ (by simp)) (by omega) (by simp; omega) ?_)
        intro v' w2 hown hgr hat
        have hb2 : Below w.heap.size w w2 := (below_then hb (show Below wr.heap.size wr _ by (repeat (first | with_reducible exact Below.refl _ _ | with_reducible assumption | with_reducible refine below_alloc ?_ _ | ((with_reducible refine Below.setCell ?_ ?_ _); rotate_left; (· first | exact Nat.le_refl _ | (simp; done) | (simp; omega))) | with_reducible refine below_drewN ?_ _ | with_reducible refine Below.drew ?_ | with_reducible refine below_then ?_ (by with_reducible assumption))))).grown hgr (by simp; omega) (fun g hg => (ho.lt g hg).1)
        rw [← hs.out] at hown
        clear hgr hat ho
        go_wp2_with fail
        go_roundw
        case rel => exact ⟨k + 1, by omega, by go_num, hown, hb2⟩
        case measure => simp [intOf]; omega
    · rw [List.take_of_length_le (by omega)] at ho
      go_wp2_with fail
      go_ret
      exact RetOwn.insRow ho HO.out hb
set_option maxHeartbeats 4000000 in
theorem specL6Expr (w : World) (lo hi : Nat) (A : Option Addr) (n c : Nat) (l : List Tok) (h : Sl TokR w lo hi A n c l) (hh : hi ≤ w.heap.size) (hn : n ≤ 1048576) (ht : lowT l) :
    Calls Try.prog 251 #[.slice A n c] w (RetOwn InsR 165 (l.map tokIns) w) := by
  have e1 := h.lenEq
  have HT := Lib.hid ht
  have HO := Lib.hid (lowT_ok ht)
  clear ht
  go_enter Try.func251, Try.ntmps251
  go_wp2_with fail
  go_loopw [3, 8] (fun v i wr => ∃ k : Nat, k ≤ n ∧ i = .int .i64 k ∧ InsRow wr w.heap.size v ((l.take k).map tokIns) ∧ Below w.heap.size w wr) (fun _ i _ => n - (intOf i).toNat)
  case atStart => exact ⟨0, Nat.zero_le _, rfl, InsRow.nil_ _ _, Below.refl _ _⟩
  case round =>
    obtain ⟨k, hk, rfl, ho, hb⟩ := hrel
    by_cases hlt : k < n
    · obtain ⟨b, o, x0, x1, rfl, _, _, hl0, i0, i1, d0, d1⟩ := Tok_at (h.below hb hh) hlt
      have hx := HT.out _ (List.getElem_mem (by omega : k < l.length))
      have hs := fun y => take_map_succ (f := tokIns) (y := y) (l := l) (k := k) (by omega)
      rw [hl0] at hx hs
      obtain ⟨⟨q0, q1⟩, _, q2⟩ := hx
      have hbs := hb.size
      have hln : ((l.take k).map tokIns).length ≤ 1048576 := by simp; omega
      clear hl0
      obtain ⟨ys, hys0⟩ : ∃ ys, ys = (l.take k).map tokIns := ⟨_, rfl⟩
      rw [← hys0] at ho hs hln
      have HS := Lib.hid hs
      clear hs hys0
      have hs := Lib.hid (HS.out ((tokIns (x0, x1)).1, (tokIns (x0, x1)).2) rfl)
      clear HS q2
      go_wp2_with fail
      refine (specL6Tok _ x0 x1 q0 q1).mono ?_
      rintro e w2 ⟨rfl, hb2⟩
      have hb3 : Below wr.heap.size wr w2 := by (repeat (first | with_reducible exact Below.refl _ _ | with_reducible assumption | with_reducible refine below_alloc ?_ _ | ((with_reducible refine Below.setCell ?_ ?_ _); rotate_left; (· first | exact Nat.le_refl _ | (simp; done) | (simp; omega))) | with_reducible refine below_drewN ?_ _ | with_reducible refine Below.drew ?_ | with_reducible refine below_then ?_ (by with_reducible assumption)))
      have hz3 := hb3.size
      generalize (tokIns (x0, x1)).1 = p at hs
      generalize (tokIns (x0, x1)).2 = q at hs
      clear hb2
      go_wp2_with (at_builtin; refine wpl_app1 _ rfl _ _ rfl w.heap.size _ ys rfl (ho.below (hb3.alloc hz3 _)) ⟨w2.heap.size, 0, none⟩ 1 p q rfl (cell_new2 _ _ _ _ (by simp)) (by omega) (by simp; omega) ?_)
      intro v' w3 hown hgr hat
      have hb4 : Below w.heap.size w w3 := (below_then hb (hb3.alloc hz3 _)).grown hgr (by simp; omega) (fun g hg => (ho.lt g hg).1)
      rw [← hs.out] at hown
      clear hgr hat ho
      go_wp2_with fail
      go_roundw
      case rel => exact ⟨k + 1, by omega, by go_num, hown, hb4⟩
      case measure => simp [intOf]; omega
    · rw [List.take_of_length_le (by omega)] at ho
      go_wp2_with fail
      go_ret
      exact RetOwn.insRow ho HO.out hb
theorem not_mem_take_succ {l : List Int} {n : Int} {k : Nat} (hk : k < l.length) (h : ¬ n ∈ l.take k) (he : ¬ l[k] = n) : ¬ n ∈ l.take (k + 1) := by
  rw [List.take_succ_eq_append_getElem hk]
  simp only [List.mem_append, List.mem_singleton, not_or]
  exact ⟨h, fun e => he e.symm⟩
theorem idxI_none {l : List Int} {n : Int} {k : Nat} (hk : l.length ≤ k) (h : ¬ n ∈ l.take k) : idxI l n = -1 := by
  rw [List.take_of_length_le hk] at h
  unfold idxI; rw [if_neg h]
theorem slicesIndexInt (w : World) (lo hi : Nat) (A : Option Addr) (n c : Nat) (l : List Int) (x : Int) (h : Sl intR w lo hi A n c l) (hh : hi ≤ w.heap.size) (hn : n ≤ 1099511627776) :
    Calls Try.prog 188 #[.slice A n c, .int .i64 x] w (RetV (.int .i64 (idxI l x)) w) := by
  have e1 := h.lenEq
  go_enter Try.func188, Try.ntmps188
  go_wp2_with fail
  go_loopw [8] (fun i wr => ∃ k : Nat, k ≤ n ∧ i = .int .i64 k ∧ ¬ x ∈ l.take k ∧ Below w.heap.size w wr) (fun i _ => n - (intOf i).toNat)
  case atStart => exact ⟨0, Nat.zero_le _, rfl, by simp, Below.refl _ _⟩
  case round =>
    obtain ⟨k, hk, rfl, hm, hb⟩ := hrel
    by_cases hlt : k < n
    · obtain ⟨b, o, rfl, _, _, hc, _⟩ := (h.below hb hh).int_at hlt
      have hy := Lib.hid (idxOf_take (l := l) (n := x) (k := k) (by omega) hm)
      have hno := Lib.hid (not_mem_take_succ (l := l) (n := x) (k := k) (by omega) hm)
      clear hm
      generalize l[k]'(by omega) = y at hc hy hno
      by_cases he : y = x
      · have hv := Lib.hid (hy.out he)
        have hd : (x == y) = true := by simp [he]
        clear hy hno he
        go_wp2_with fail
        go_ret
        exact ⟨ret_int hv.out.symm, hb⟩
      · have hv := Lib.hid (hno.out he)
        have hd : (x == y) = false := by simp; omega
        clear hy hno he
        go_wp2_with fail
        go_roundw
        case rel => exact ⟨k + 1, by omega, by go_num, hv.out, hb⟩
        case measure => simp [intOf]; omega
    · have hv := Lib.hid (idxI_none (by omega) hm)
      clear hm
      go_wp2_with fail
      go_ret
      exact ⟨ret_int hv.out.symm, hb⟩
theorem specL6Site (w : World) (lo hi : Nat) (x0 x1 : Int) (v2 : Value) (A : Option Addr) (n c : Nat) (ss : List Stmt) (x : Int) (h : Sl StmtR w lo hi A n c ss) (hh : hi ≤ w.heap.size) (hn : n ≤ 1048576) :
    Calls Try.prog 252 #[.agg #[.int .i64 x0, .int .i64 x1, v2, .slice A n c], .int .i64 x] w (RetV (.int .i64 (idxI (sitesF ss) x)) w) := by
  have e1 := h.lenEq
  go_enter Try.func252, Try.ntmps252
  go_wp2_with fail
  refine (specL3Sites _ lo hi x0 x1 _ A n c ss (h.below (show Below w.heap.size w _ by (repeat (first | with_reducible exact Below.refl _ _ | with_reducible assumption | with_reducible refine below_alloc ?_ _ | ((with_reducible refine Below.setCell ?_ ?_ _); rotate_left; (· first | exact Nat.le_refl _ | (simp; done) | (simp; omega))) | with_reducible refine below_drewN ?_ _ | with_reducible refine Below.drew ?_ | with_reducible refine below_then ?_ (by with_reducible assumption)))) (by omega)) (by first | omega | (simp; omega)) hn).mono ?_
  rintro e w2 ⟨F2, A2, n2, c2, rfl, ho, hF2, hb2⟩
  have hS := ho.sl
  have l2 := hS.lenEq
  have hsl := sitesF_len ss
  have hx2 : Below w.heap.size w w2 := by (repeat (first | with_reducible exact Below.refl _ _ | with_reducible assumption | with_reducible refine below_alloc ?_ _ | ((with_reducible refine Below.setCell ?_ ?_ _); rotate_left; (· first | exact Nat.le_refl _ | (simp; done) | (simp; omega))) | with_reducible refine below_drewN ?_ _ | with_reducible refine Below.drew ?_ | with_reducible refine below_then ?_ (by with_reducible assumption)))
  clear ho hF2 hb2
  obtain ⟨l, hl0⟩ : ∃ l, l = sitesF ss := ⟨_, rfl⟩
  rw [← hl0] at hS l2 hsl
  have HL := Lib.hid hl0
  clear hl0
  go_wp2_with fail
  go_loopw [10] (fun i wr => ∃ k : Nat, k ≤ n2 ∧ i = .int .i64 k ∧ ¬ x ∈ l.take k ∧ Below w2.heap.size w2 wr) (fun i _ => n2 - (intOf i).toNat)
  case atStart => exact ⟨0, Nat.zero_le _, rfl, by simp, Below.refl _ _⟩
  case round =>
    obtain ⟨k, hk, rfl, hm, hb⟩ := hrel
    by_cases hlt : k < n2
    · obtain ⟨b, o, rfl, _, _, hc, _⟩ := (hS.below hb (Nat.le_refl _)).int_at hlt
      have hy := Lib.hid (idxOf_take (l := l) (n := x) (k := k) (by omega) hm)
      have hno := Lib.hid (not_mem_take_succ (l := l) (n := x) (k := k) (by omega) hm)
      clear hm
      generalize l[k]'(by omega) = y at hc hy hno
      by_cases he : y = x
      · have hv := Lib.hid (hy.out he)
        have hd : (y == x) = true := by simp [he]
        clear hy hno he
        go_wp2_with fail
        go_ret
        exact ⟨ret_int (by rw [← HL.out]; exact hv.out.symm), below_then hx2 hb⟩
      · have hv := Lib.hid (hno.out he)
        have hd : (y == x) = false := by simp; omega
        clear hy hno he
        go_wp2_with fail
        go_roundw
        case rel => exact ⟨k + 1, by omega, by go_num, hv.out, hb⟩
        case measure => simp [intOf]; omega
    · have hv := Lib.hid (idxI_none (by omega) hm)
      clear hm
      go_wp2_with fail
      go_ret
      exact ⟨ret_int (by rw [← HL.out]; exact hv.out.symm), below_then hx2 hb⟩
end Go.Proofs.Ytgagbbhnifkclaa
