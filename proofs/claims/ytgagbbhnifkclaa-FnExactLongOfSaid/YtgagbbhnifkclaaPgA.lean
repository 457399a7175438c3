/- Of a program: its params; of a function: the sites of what it puts off. Walks of both sides. -/
import Derived.Test.YtgagbbhnifkclaaTyProg
import Derived.Test.YtgagbbhnifkclaaOwnRes
import Derived.Test.YtgagbbhnifkclaaHigh
import Derived.Deep.Onto
set_option linter.unusedVariables false
set_option linter.unusedSimpArgs false
set_option maxRecDepth 100000
namespace Go.Proofs.Ytgagbbhnifkclaa
open Go.RowKit

def paramsF (fs : List Func) : List Int := fs.map fun f => f.1
theorem paramsF_succ {fs : List Func} {k : Nat} (hk : k < fs.length) : paramsF (fs.take (k + 1)) = paramsF (fs.take k) ++ [fs[k].1] := by
  unfold paramsF; rw [List.take_succ_eq_append_getElem hk, List.map_append]; rfl
theorem paramsF_take (fs : List Func) (k : Nat) : paramsF (fs.take k) = (paramsF fs).take k := by unfold paramsF; rw [List.map_take]
theorem Sl.mem {α : Type} {R : Rp α} {w : World} {lo hi : Nat} {A : Option Addr} {n c : Nat} {l : List α} (h : Sl R w lo hi A n c l) {x : α} (hx : x ∈ l) : ∃ cs, R.rel w lo hi cs x := by
  obtain ⟨i, hi, rfl⟩ := List.getElem_of_mem hx
  obtain ⟨b, off, cs, _, _, _, hr, _⟩ := h.at_ (k := i) (by have := h.1; omega)
  exact ⟨cs, hr⟩
theorem Sl.func64 {w : World} {lo hi : Nat} {A : Option Addr} {n c : Nat} {l : List Func} (h : Sl FuncR w lo hi A n c l) : ∀ x, x ∈ paramsF l → I64 x := by
  intro x hx
  obtain ⟨f, hf, rfl⟩ := List.mem_map.1 hx
  obtain ⟨cs, hr⟩ := h.mem hf
  obtain ⟨x0, x1, _, _, _, _, _, _, _, _, _, rfl, i0, _⟩ := Func_rel hr
  exact i0
theorem mapInt_len (l : List Int) : (l.map (Value.int .i64)).length = l.length := by simp
theorem specL3Params (w : World) (lo hi : Nat) (A : Option Addr) (n c : Nat) (l : List Func) (h : Sl FuncR w lo hi A n c l) (hh : hi ≤ w.heap.size) (hn : n ≤ 1048576) :
    Calls Try.prog 166 #[.agg #[.slice A n c]] w (RetOwn intR 3 (paramsF l) w) := by
  have e1 := h.lenEq
  have h64 := Lib.hid h.func64
  obtain ⟨inf, hif, hz0, hz1, hz2⟩ := info_parts Try.infoInt
  go_enter Try.func166, Try.ntmps166
  go_wp2_with fail
  go_loopw [3, 9] (fun v i wr => ∃ k : Nat, k ≤ n ∧ i = .int .i64 k ∧ wr.ownsRow (w.heap.size + 1) 3 1 v (paramsF (l.take k)).length ((paramsF (l.take k)).map (Value.int .i64)) ∧ Below w.heap.size w wr) (fun _ i _ => n - (intOf i).toNat)
  case atStart => exact ⟨0, Nat.zero_le _, rfl, by simpa [paramsF] using World.ownsRow_nil _ _ _ _, by (repeat (first | with_reducible exact Below.refl _ _ | with_reducible assumption | with_reducible refine below_alloc ?_ _ | ((with_reducible refine Below.setCell ?_ ?_ _); rotate_left; (· first | exact Nat.le_refl _ | (simp; done) | (simp; omega))) | with_reducible refine below_drewN ?_ _ | with_reducible refine Below.drew ?_ | with_reducible refine below_then ?_ (by with_reducible assumption)))⟩
  case round =>
    obtain ⟨k, hk, rfl, ho, hb⟩ := hrel
    by_cases hlt : k < n
    · obtain ⟨b, o, x0, x1, A2, n2, c2, s2, A3, n3, c3, s3, rfl, _, _, hl0, i0, i1, h2, h3, d0, d1, d2, d3⟩ := Func_at (h.below hb hh) hlt
      have hs := Lib.hid (paramsF_succ (fs := l) (k := k) (by omega))
      rw [hl0] at hs
      have hln : (paramsF (l.take k)).length = min k n := by simp [paramsF, e1]
      have hln2 : (paramsF (l.take k)).length ≤ k := by omega
      have hbs := hb.size
      clear hl0 hln
      go_wp2_with (at_builtin; refine wpList_append_own _ rfl _ _ 33 rfl (w.heap.size + 1) 3 inf (.int .i64 0) 1 8 Try.underlying33 hif hz0 hz1 hz2 rfl (by decide) _ _ _ rfl ((ho.alloc _).alloc _) ⟨wr.heap.size + 1, 0, none⟩ 1 1 [.int .i64 x0] rfl rfl (cell_new1 _ _ _ (by simp)) (by simp [Value.oneCell']) (by unfold maxLen; omega) (by omega) (by simp; omega) ?_)
      intro v' w2 hown hgr _
      have hb2 := below_own (ho.mono (Nat.le_succ _)) hgr (by (repeat (first | with_reducible exact Below.refl _ _ | with_reducible assumption | with_reducible refine below_alloc ?_ _ | ((with_reducible refine Below.setCell ?_ ?_ _); rotate_left; (· first | exact Nat.le_refl _ | (simp; done) | (simp; omega))) | with_reducible refine below_drewN ?_ _ | with_reducible refine Below.drew ?_ | with_reducible refine below_then ?_ (by with_reducible assumption))))
      have ho2 : w2.ownsRow (w.heap.size + 1) 3 1 v' (paramsF (l.take (k + 1))).length ((paramsF (l.take (k + 1))).map (Value.int .i64)) := by
        rw [hs.out]; simpa using hown
      clear hown hgr ho
      go_wp2
      go_roundw
      case rel => exact ⟨k + 1, by omega, by go_num, ho2, hb2⟩
      case measure => simp [intOf]; omega
    · rw [List.take_of_length_le (by omega)] at ho
      go_wp2
      go_ret
      exact RetOwn.ints (ho.mono (Nat.le_succ _)) h64.out hb
theorem implParamsOf (w : World) (lo hi : Nat) (A : Option Addr) (n c : Nat) (l : List Func) (h : Sl FuncR w lo hi A n c l) (hh : hi ≤ w.heap.size) (hn : n ≤ 1048576) :
    Calls Try.prog 169 #[.agg #[.slice A n c]] w (RetOwn intR 3 (paramsF l) w) := by
  have e1 := h.lenEq
  have h64 := Lib.hid h.func64
  have el : (paramsF l).length = n := by simp [paramsF, e1]
  obtain ⟨i0, hi0, hz0, hz1, hz2⟩ := info_parts Try.infoInt
  go_enter Try.func169, Try.ntmps169
  go_wp2_with (at_make; refine wpList_make_full _ rfl _ _ 33 rfl 0 3 i0 (.int .i64 0) 1 Try.underlying33 hi0 hz0 hz1 _ _ _ _ n rfl rfl rfl rfl (by rw [hz2]; omega) (by unfold maxLen; omega) (Nat.zero_le _) ?_)
  intro w1 hown hg
  have hz : w.heap.size < w1.heap.size := by have := hg.size; simp at this; omega
  have hF := Fill.start (R := intR) hown
  have hb1 : Below (w.alloc (.cells #[.slice A n c] 70)).heap.size (w.alloc (.cells #[.slice A n c] 70)) w1 := (Below.refl _ _).grown hg (Nat.le_refl _) (fun k hk => by cases hk)
  have hb0 : Below w.heap.size w w1 := below_then (by (repeat (first | with_reducible exact Below.refl _ _ | with_reducible assumption | with_reducible refine below_alloc ?_ _ | ((with_reducible refine Below.setCell ?_ ?_ _); rotate_left; (· first | exact Nat.le_refl _ | (simp; done) | (simp; omega))) | with_reducible refine below_drewN ?_ _ | with_reducible refine Below.drew ?_ | with_reducible refine below_then ?_ (by with_reducible assumption)))) hb1
  have k0 : w1.cell? ⟨w.heap.size, 0, none⟩ = some (.slice A n c) := below_cell hb1 (by simp [go_sem])
  go_wp2_with fail
  go_loopw [13] (fun i wr => ∃ k : Nat, k ≤ n ∧ i = .int .i64 k ∧ Fill intR wr 3 [w.heap.size + 1] (w.heap.size + 1) n ((paramsF l).take k) ∧ Below w.heap.size w wr) (fun i _ => n - (intOf i).toNat)
  case atStart => exact ⟨0, Nat.zero_le _, rfl, hF, hb0⟩
  case round =>
    obtain ⟨k, hk, rfl, hF, hb⟩ := hrel
    by_cases hlt : k < n
    · obtain ⟨b, o, x0, x1, A2, n2, c2, s2, A3, n3, c3, s3, rfl, _, _, hl0, i0', i1, h2, h3, d0, d1, d2, d3⟩ := Func_at (h.below hb hh) hlt
      have hlk : ((paramsF l).take k).length = k := by rw [List.length_take, el]; omega
      have hx0 : (paramsF l)[k]'(by omega) = x0 := by simp [paramsF, hl0]
      obtain ⟨u0, hu0⟩ : ∃ u, wr.cell? ⟨w.heap.size + 1, k, none⟩ = some u := by have := hF.cell' hlk hlt (j := 0) (by decide); rwa [show k * intR.size + 0 = k from Nat.mul_one k] at this
      have hlw := World.block_lt_of_cell? wr _ hu0
      simp only at hlw
      have f0 := hF.frozen k
      have hst := hF.step' (Fx := []) (cs := [.int .i64 x0]) el hlt (by rw [hx0]; exact ⟨rfl, rfl, i0'⟩) (by simp)
      rw [show k * intR.size = k from Nat.mul_one k] at hst
      have hst := hst.below (w' := (wr.setCell ⟨w.heap.size + 1, k, none⟩ (.int .i64 x0)).alloc (.cells #[.int .i64 x0, .int .i64 x1, .slice A2 n2 c2, .slice A3 n3 c3] 139)) (Below.alloc (Below.refl _ _) (Nat.le_refl _) _)
      clear hlk hx0 hl0
      go_wp2_with fail
      go_roundw
      case rel => exact ⟨k + 1, by omega, by go_num, hst, by (repeat (first | with_reducible exact Below.refl _ _ | with_reducible assumption | with_reducible refine below_alloc ?_ _ | ((with_reducible refine Below.setCell ?_ ?_ _); rotate_left; (· first | exact Nat.le_refl _ | (simp; done) | (simp; omega))) | with_reducible refine below_drewN ?_ _ | with_reducible refine Below.drew ?_ | with_reducible refine below_then ?_ (by with_reducible assumption)))⟩
      case measure => simp [intOf]; omega
    · go_wp2_with fail
      go_ret
      exact RetOwn.mk rfl (hF.all el (by omega)) (by simp) hb
def sitesF (ss : List Stmt) : List Int := (ss.zipIdx.filter fun p => p.1.1 == 3).map fun p => (p.2 : Int)
theorem sitesF_succ {ss : List Stmt} {k : Nat} (hk : k < ss.length) : sitesF (ss.take (k + 1)) = sitesF (ss.take k) ++ if ss[k].1 = 3 then [(k : Int)] else [] := by
  unfold sitesF
  rw [List.take_succ_eq_append_getElem hk, List.zipIdx_append, List.filter_append, List.map_append]
  congr 1
  simp only [List.length_take, Nat.zero_add, List.zipIdx_singleton, Nat.min_eq_left (Nat.le_of_lt hk)]
  by_cases h3 : ss[k].1 = 3
  · simp [h3]
  · simp [h3]
theorem sitesF_len (ss : List Stmt) : (sitesF ss).length ≤ ss.length := by
  unfold sitesF; rw [List.length_map]; exact Nat.le_trans (List.length_filter_le _ _) (by simp)
theorem sitesF_mem (ss : List Stmt) : ∀ x, x ∈ sitesF ss → 0 ≤ x ∧ x < (ss.length : Int) := by
  intro x hx
  obtain ⟨⟨s, i⟩, hp, rfl⟩ := List.mem_map.1 hx
  have := List.mem_zipIdx (List.mem_filter.1 hp).1
  simp at this ⊢; omega
theorem implSitesOf (w : World) (lo hi : Nat) (x0 x1 : Int) (v2 : Value) (A : Option Addr) (n c : Nat) (l : List Stmt) (h : Sl StmtR w lo hi A n c l) (hh : hi ≤ w.heap.size) (hn : n ≤ 1048576) :
    Calls Try.prog 106 #[.agg #[.int .i64 x0, .int .i64 x1, v2, .slice A n c]] w (RetOwn intR 3 (sitesF l) w) := by
  have e1 := h.lenEq
  obtain ⟨inf, hif, hz0, hz1, hz2⟩ := info_parts Try.infoInt
  go_enter Try.func106, Try.ntmps106
  go_wp2_with fail
  go_loopw [3, 9] (fun v i wr => ∃ k : Nat, k ≤ n ∧ i = .int .i64 k ∧ wr.ownsRow (w.heap.size + 1) 3 1 v (sitesF (l.take k)).length ((sitesF (l.take k)).map (Value.int .i64)) ∧ Below w.heap.size w wr) (fun _ i _ => n - (intOf i).toNat)
  case atStart => exact ⟨0, Nat.zero_le _, rfl, by simpa [sitesF] using World.ownsRow_nil _ _ _ _, by (repeat (first | with_reducible exact Below.refl _ _ | with_reducible assumption | with_reducible refine below_alloc ?_ _ | ((with_reducible refine Below.setCell ?_ ?_ _); rotate_left; (· first | exact Nat.le_refl _ | (simp; done) | (simp; omega))) | with_reducible refine below_drewN ?_ _ | with_reducible refine Below.drew ?_ | with_reducible refine below_then ?_ (by with_reducible assumption)))⟩
  case round =>
    obtain ⟨k, hk, rfl, ho, hb⟩ := hrel
    by_cases hlt : k < n
    · obtain ⟨b, o, x0', x1', A2, n2, c2, s2, A3, n3, c3, s3, A4, n4, c4, s4, rfl, _, _, hl0, i0, i1, h2, h3, h4, d0, d1, d2, d3, d4⟩ := Stmt_at (h.below hb hh) hlt
      have hs := sitesF_succ (ss := l) (k := k) (by omega)
      rw [hl0] at hs
      have hln := sitesF_len (l.take k)
      rw [List.length_take] at hln
      have hbs := hb.size
      clear hl0
      by_cases h3 : x0' = 3
      · subst h3
        have hS := Lib.hid (hs.trans (by rw [if_pos rfl]))
        clear hs
        go_wp2_with (at_builtin; refine wpList_append_own _ rfl _ _ 33 rfl (w.heap.size + 1) 3 inf (.int .i64 0) 1 8 Try.underlying33 hif hz0 hz1 hz2 rfl (by decide) _ _ _ rfl ((ho.alloc _).alloc _) ⟨wr.heap.size + 1, 0, none⟩ 1 1 [.int .i64 k] rfl rfl (cell_new1 _ _ _ (by simp)) (by simp [Value.oneCell']) (by unfold maxLen; omega) (by omega) (by simp; omega) ?_)
        intro v' w2 hown hgr _
        have hb2 := below_own (ho.mono (Nat.le_succ _)) hgr (by (repeat (first | with_reducible exact Below.refl _ _ | with_reducible assumption | with_reducible refine below_alloc ?_ _ | ((with_reducible refine Below.setCell ?_ ?_ _); rotate_left; (· first | exact Nat.le_refl _ | (simp; done) | (simp; omega))) | with_reducible refine below_drewN ?_ _ | with_reducible refine Below.drew ?_ | with_reducible refine below_then ?_ (by with_reducible assumption))))
        have ho2 : w2.ownsRow (w.heap.size + 1) 3 1 v' (sitesF (l.take (k + 1))).length ((sitesF (l.take (k + 1))).map (Value.int .i64)) := by
          rw [hS.out]; simpa using hown
        clear hown hgr ho
        go_wp2
        go_roundw
        case rel => exact ⟨k + 1, by omega, by go_num, ho2, hb2⟩
        case measure => simp [intOf]; omega
      · have hs : sitesF (l.take (k + 1)) = sitesF (l.take k) := hs.trans (by rw [if_neg h3, List.append_nil])
        rw [← hs] at ho
        clear hs
        have hd : (x0' == 3) = false := by simpa using h3
        clear h3
        go_wp2
        go_roundw
        case rel => exact ⟨k + 1, by omega, by go_num, ho.alloc _, by (repeat (first | with_reducible exact Below.refl _ _ | with_reducible assumption | with_reducible refine below_alloc ?_ _ | ((with_reducible refine Below.setCell ?_ ?_ _); rotate_left; (· first | exact Nat.le_refl _ | (simp; done) | (simp; omega))) | with_reducible refine below_drewN ?_ _ | with_reducible refine Below.drew ?_ | with_reducible refine below_then ?_ (by with_reducible assumption)))⟩
        case measure => simp [intOf]; omega
    · rw [List.take_of_length_le (by omega)] at ho
      have hm := sitesF_mem l
      go_wp2
      go_ret
      exact RetOwn.ints (ho.mono (Nat.le_succ _)) (fun x hx => by have := hm x hx; unfold I64; omega) hb
theorem specL3Sites (w : World) (lo hi : Nat) (x0 x1 : Int) (v2 : Value) (A : Option Addr) (n c : Nat) (l : List Stmt) (h : Sl StmtR w lo hi A n c l) (hh : hi ≤ w.heap.size) (hn : n ≤ 1048576) :
    Calls Try.prog 102 #[.agg #[.int .i64 x0, .int .i64 x1, v2, .slice A n c]] w (RetOwn intR 3 (sitesF l) w) := by
  have e1 := h.lenEq
  obtain ⟨inf, hif, hz0, hz1, hz2⟩ := info_parts Try.infoInt
  go_enter Try.func102, Try.ntmps102
  go_wp2_with fail
  go_loopw [3, 9] (fun v i wr => ∃ k : Nat, k ≤ n ∧ i = .int .i64 k ∧ wr.ownsRow (w.heap.size + 1) 3 1 v (sitesF (l.take k)).length ((sitesF (l.take k)).map (Value.int .i64)) ∧ Below w.heap.size w wr) (fun _ i _ => n - (intOf i).toNat)
  case atStart => exact ⟨0, Nat.zero_le _, rfl, by simpa [sitesF] using World.ownsRow_nil _ _ _ _, by (repeat (first | with_reducible exact Below.refl _ _ | with_reducible assumption | with_reducible refine below_alloc ?_ _ | ((with_reducible refine Below.setCell ?_ ?_ _); rotate_left; (· first | exact Nat.le_refl _ | (simp; done) | (simp; omega))) | with_reducible refine below_drewN ?_ _ | with_reducible refine Below.drew ?_ | with_reducible refine below_then ?_ (by with_reducible assumption)))⟩
  case round =>
    obtain ⟨k, hk, rfl, ho, hb⟩ := hrel
    by_cases hlt : k < n
    · obtain ⟨b, o, x0', x1', A2, n2, c2, s2, A3, n3, c3, s3, A4, n4, c4, s4, rfl, _, _, hl0, i0, i1, h2, h3, h4, d0, d1, d2, d3, d4⟩ := Stmt_at (h.below hb hh) hlt
      have hs := sitesF_succ (ss := l) (k := k) (by omega)
      rw [hl0] at hs
      have hln := sitesF_len (l.take k)
      rw [List.length_take] at hln
      have hbs := hb.size
      clear hl0
      by_cases h3 : x0' = 3
      · subst h3
        have hS := Lib.hid (hs.trans (by rw [if_pos rfl]))
        clear hs
        go_wp2_with (at_builtin; refine wpList_append_own _ rfl _ _ 33 rfl (w.heap.size + 1) 3 inf (.int .i64 0) 1 8 Try.underlying33 hif hz0 hz1 hz2 rfl (by decide) _ _ _ rfl ((ho.alloc _).alloc _) ⟨wr.heap.size + 1, 0, none⟩ 1 1 [.int .i64 k] rfl rfl (cell_new1 _ _ _ (by simp)) (by simp [Value.oneCell']) (by unfold maxLen; omega) (by omega) (by simp; omega) ?_)
        intro v' w2 hown hgr _
        have hb2 := below_own (ho.mono (Nat.le_succ _)) hgr (by (repeat (first | with_reducible exact Below.refl _ _ | with_reducible assumption | with_reducible refine below_alloc ?_ _ | ((with_reducible refine Below.setCell ?_ ?_ _); rotate_left; (· first | exact Nat.le_refl _ | (simp; done) | (simp; omega))) | with_reducible refine below_drewN ?_ _ | with_reducible refine Below.drew ?_ | with_reducible refine below_then ?_ (by with_reducible assumption))))
        have ho2 : w2.ownsRow (w.heap.size + 1) 3 1 v' (sitesF (l.take (k + 1))).length ((sitesF (l.take (k + 1))).map (Value.int .i64)) := by
          rw [hS.out]; simpa using hown
        clear hown hgr ho
        go_wp2
        go_roundw
        case rel => exact ⟨k + 1, by omega, by go_num, ho2, hb2⟩
        case measure => simp [intOf]; omega
      · have hs : sitesF (l.take (k + 1)) = sitesF (l.take k) := hs.trans (by rw [if_neg h3, List.append_nil])
        rw [← hs] at ho
        clear hs
        have hd : (x0' == 3) = false := by simpa using h3
        clear h3
        go_wp2
        go_roundw
        case rel => exact ⟨k + 1, by omega, by go_num, ho.alloc _, by (repeat (first | with_reducible exact Below.refl _ _ | with_reducible assumption | with_reducible refine below_alloc ?_ _ | ((with_reducible refine Below.setCell ?_ ?_ _); rotate_left; (· first | exact Nat.le_refl _ | (simp; done) | (simp; omega))) | with_reducible refine below_drewN ?_ _ | with_reducible refine Below.drew ?_ | with_reducible refine below_then ?_ (by with_reducible assumption)))⟩
        case measure => simp [intOf]; omega
    · rw [List.take_of_length_le (by omega)] at ho
      have hm := sitesF_mem l
      go_wp2
      go_ret
      exact RetOwn.ints (ho.mono (Nat.le_succ _)) (fun x hx => by have := hm x hx; unfold I64; omega) hb
end Go.Proofs.Ytgagbbhnifkclaa
