/- Several texts in one: PgA, Stmts, GoodP, OrdP, Order, OrderS, Blocks, ShapeP. -/
import Derived.Test.YtgoinmdnpaknpaaTyPg
import Derived.Test.YtgoinmdnpaknpaaKit1
import Derived.Test.YtgoinmdnpaknpaaExprG
import Derived.Deep.Onto
import Derived.Maps.AppendAt
import Derived.Deep.RegionHeld3

/- Of a program: its params; of a function: the sites of what it puts off. Walks of both sides. -/
set_option linter.unusedVariables false
set_option linter.unusedSimpArgs false
set_option maxRecDepth 100000
namespace Go.Proofs.Ytgoinmdnpaknpaa
open Go.RowKit

def paramsF (fs : List Func) : List Int := fs.map fun f => f.1
theorem paramsF_succ {fs : List Func} {k : Nat} (hk : k < fs.length) : paramsF (fs.take (k + 1)) = paramsF (fs.take k) ++ [fs[k].1] := by
  unfold paramsF; rw [List.take_succ_eq_append_getElem hk, List.map_append]; rfl
theorem paramsF_take (fs : List Func) (k : Nat) : paramsF (fs.take k) = (paramsF fs).take k := by unfold paramsF; rw [List.map_take]
theorem Sl.mem {α : Type} {R : Rp α} {w : World} {lo hi : Nat} {A : Option Addr} {n c : Nat} {l : List α} (h : Sl R w lo hi A n c l) {x : α} (hx : x ∈ l) : ∃ cs, R.rel w lo hi cs x := by
  obtain ⟨i, hi, rfl⟩ := List.getElem_of_mem hx
  obtain ⟨b, off, cs, _, _, _, hr, _⟩ := h.at_ (k := i) (by have := h.1; omega)
  exact ⟨cs, hr⟩
theorem Sl.func64 {w : World} {lo hi : Nat} {A : Option Addr} {n c : Nat} {l : List Func} (h : Sl FuncR w lo hi A n c l) : ∀ x, x ∈ paramsF l → I64 x := by
  intro x hx
  obtain ⟨f, hf, rfl⟩ := List.mem_map.1 hx
  obtain ⟨cs, hr⟩ := h.mem hf
  obtain ⟨x0, x1, _, _, _, _, _, _, _, _, _, rfl, i0, _⟩ := Func_rel hr
  exact i0
theorem mapInt_len (l : List Int) : (l.map (Value.int .i64)).length = l.length := by simp
theorem specL3Params (w : World) (lo hi : Nat) (A : Option Addr) (n c : Nat) (l : List Func) (h : Sl FuncR w lo hi A n c l) (hh : hi ≤ w.heap.size) (hn : n ≤ 1048576) :
    Calls Try.prog 70 #[.agg #[.slice A n c]] w (RetOwn intR 3 (paramsF l) w) := by
  have e1 := h.lenEq
  have h64 := Lib.hid h.func64
  obtain ⟨inf, hif, hz0, hz1, hz2⟩ := info_parts Try.infoInt
  go_enter Try.func70, Try.ntmps70
  go_wp2_with fail
  go_loopw [3, 9] (fun v i wr => ∃ k : Nat, k ≤ n ∧ i = .int .i64 k ∧ wr.ownsRow (w.heap.size + 1) 3 1 v (paramsF (l.take k)).length ((paramsF (l.take k)).map (Value.int .i64)) ∧ Below w.heap.size w wr) (fun _ i _ => n - (intOf i).toNat)
  case atStart => exact ⟨0, Nat.zero_le _, rfl, by simpa [paramsF] using World.ownsRow_nil _ _ _ _, by exact belA⟩
  case round =>
    obtain ⟨k, hk, rfl, ho, hb⟩ := hrel
    by_cases hlt : k < n
    · obtain ⟨b, o, x0, x1, A2, n2, c2, s2, A3, n3, c3, s3, rfl, _, _, hl0, i0, i1, h2, h3, d0, d1, d2, d3⟩ := Func_at (h.below hb hh) hlt
      have hs := Lib.hid (paramsF_succ (fs := l) (k := k) (by omega))
      rw [hl0] at hs
      have hln : (paramsF (l.take k)).length = min k n := by simp [paramsF, e1]
      have hln2 : (paramsF (l.take k)).length ≤ k := by omega
      have hbs := hb.size
      clear hl0 hln
      go_wp2_with (at_builtin; refine wpList_append_own _ rfl _ _ 37 rfl (w.heap.size + 1) 3 inf (.int .i64 0) 1 8 Try.underlying37 hif hz0 hz1 hz2 rfl (by decide) _ _ _ rfl ((ho.alloc _).alloc _) ⟨wr.heap.size + 1, 0, none⟩ 1 1 [.int .i64 x0] rfl rfl (cell_new1 _ _ _ (by simp)) (by simp [Value.oneCell']) (by unfold maxLen; omega) (by omega) (by simp; omega) ?_)
      intro v' w2 hown hgr _
      have hb2 := below_own (ho.mono (Nat.le_succ _)) hgr (by exact belA)
      have ho2 : w2.ownsRow (w.heap.size + 1) 3 1 v' (paramsF (l.take (k + 1))).length ((paramsF (l.take (k + 1))).map (Value.int .i64)) := by
        rw [hs.out]; simpa using hown
      clear hown hgr ho
      go_wp2
      go_roundw
      case rel => exact ⟨k + 1, by omega, by go_num, ho2, hb2⟩
      case measure => simp [intOf]; omega
    · rw [List.take_of_length_le (by omega)] at ho
      go_wp2
      go_ret
      exact RetOwn.ints (ho.mono (Nat.le_succ _)) h64.out hb
theorem implParamsOf (w : World) (lo hi : Nat) (A : Option Addr) (n c : Nat) (l : List Func) (h : Sl FuncR w lo hi A n c l) (hh : hi ≤ w.heap.size) (hn : n ≤ 1048576) :
    Calls Try.prog 76 #[.agg #[.slice A n c]] w (RetOwn intR 3 (paramsF l) w) := by
  have e1 := h.lenEq
  have h64 := Lib.hid h.func64
  have el : (paramsF l).length = n := by simp [paramsF, e1]
  obtain ⟨i0, hi0, hz0, hz1, hz2⟩ := info_parts Try.infoInt
  go_enter Try.func76, Try.ntmps76
  go_wp2_with (at_make; refine wpList_make_full _ rfl _ _ 37 rfl 0 3 i0 (.int .i64 0) 1 Try.underlying37 hi0 hz0 hz1 _ _ _ _ n rfl rfl rfl rfl (by rw [hz2]; omega) (by unfold maxLen; omega) (Nat.zero_le _) ?_)
  intro w1 hown hg
  have hz : w.heap.size < w1.heap.size := by have := hg.size; simp at this; omega
  have hF := Fill.start (R := intR) hown
  have hb1 : Below (w.alloc (.cells #[.slice A n c] 43)).heap.size (w.alloc (.cells #[.slice A n c] 43)) w1 := (Below.refl _ _).grown hg (Nat.le_refl _) (fun k hk => by cases hk)
  have hb0 : Below w.heap.size w w1 := below_then (by exact belA) hb1
  have k0 : w1.cell? ⟨w.heap.size, 0, none⟩ = some (.slice A n c) := below_cell hb1 (by simp [go_sem])
  go_wp2_with fail
  go_loopw [13] (fun i wr => ∃ k : Nat, k ≤ n ∧ i = .int .i64 k ∧ Fill intR wr 3 [w.heap.size + 1] (w.heap.size + 1) n ((paramsF l).take k) ∧ Below w.heap.size w wr) (fun i _ => n - (intOf i).toNat)
  case atStart => exact ⟨0, Nat.zero_le _, rfl, hF, hb0⟩
  case round =>
    obtain ⟨k, hk, rfl, hF, hb⟩ := hrel
    by_cases hlt : k < n
    · obtain ⟨b, o, x0, x1, A2, n2, c2, s2, A3, n3, c3, s3, rfl, _, _, hl0, i0', i1, h2, h3, d0, d1, d2, d3⟩ := Func_at (h.below hb hh) hlt
      have hlk : ((paramsF l).take k).length = k := by rw [List.length_take, el]; omega
      have hx0 : (paramsF l)[k]'(by omega) = x0 := by simp [paramsF, hl0]
      obtain ⟨u0, hu0⟩ : ∃ u, wr.cell? ⟨w.heap.size + 1, k, none⟩ = some u := by have := hF.cell' hlk hlt (j := 0) (by decide); rwa [show k * intR.size + 0 = k from Nat.mul_one k] at this
      have hlw := World.block_lt_of_cell? wr _ hu0
      simp only at hlw
      have f0 := hF.frozen k
      have hst := hF.step' (Fx := []) (cs := [.int .i64 x0]) el hlt (by rw [hx0]; exact ⟨rfl, rfl, i0'⟩) (by simp)
      rw [show k * intR.size = k from Nat.mul_one k] at hst
      have hst := hst.below (w' := (wr.setCell ⟨w.heap.size + 1, k, none⟩ (.int .i64 x0)).alloc (.cells #[.int .i64 x0, .int .i64 x1, .slice A2 n2 c2, .slice A3 n3 c3] 97)) (Below.alloc (Below.refl _ _) (Nat.le_refl _) _)
      clear hlk hx0 hl0
      go_wp2_with fail
      go_roundw
      case rel => exact ⟨k + 1, by omega, by go_num, hst, by exact belA⟩
      case measure => simp [intOf]; omega
    · go_wp2_with fail
      go_ret
      exact RetOwn.mk rfl (hF.all el (by omega)) (by simp) hb
def sitesF (ss : List Stmt) : List Int := (ss.zipIdx.filter fun p => p.1.1 == 3).map fun p => (p.2 : Int)
theorem sitesF_succ {ss : List Stmt} {k : Nat} (hk : k < ss.length) : sitesF (ss.take (k + 1)) = sitesF (ss.take k) ++ if ss[k].1 = 3 then [(k : Int)] else [] := by
  unfold sitesF
  rw [List.take_succ_eq_append_getElem hk, List.zipIdx_append, List.filter_append, List.map_append]
  congr 1
  simp only [List.length_take, Nat.zero_add, List.zipIdx_singleton, Nat.min_eq_left (Nat.le_of_lt hk)]
  by_cases h3 : ss[k].1 = 3
  · simp [h3]
  · simp [h3]
theorem sitesF_len (ss : List Stmt) : (sitesF ss).length ≤ ss.length := by
  unfold sitesF; rw [List.length_map]; exact Nat.le_trans (List.length_filter_le _ _) (by simp)
theorem sitesF_mem (ss : List Stmt) : ∀ x, x ∈ sitesF ss → 0 ≤ x ∧ x < (ss.length : Int) := by
  intro x hx
  obtain ⟨⟨s, i⟩, hp, rfl⟩ := List.mem_map.1 hx
  have := List.mem_zipIdx (List.mem_filter.1 hp).1
  simp at this ⊢; omega
theorem implSitesOf (w : World) (lo hi : Nat) (x0 x1 : Int) (v2 : Value) (A : Option Addr) (n c : Nat) (l : List Stmt) (h : Sl StmtR w lo hi A n c l) (hh : hi ≤ w.heap.size) (hn : n ≤ 1048576) :
    Calls Try.prog 106 #[.agg #[.int .i64 x0, .int .i64 x1, v2, .slice A n c]] w (RetOwn intR 3 (sitesF l) w) := by
  have e1 := h.lenEq
  obtain ⟨inf, hif, hz0, hz1, hz2⟩ := info_parts Try.infoInt
  go_enter Try.func106, Try.ntmps106
  go_wp2_with fail
  go_loopw [3, 9] (fun v i wr => ∃ k : Nat, k ≤ n ∧ i = .int .i64 k ∧ wr.ownsRow (w.heap.size + 1) 3 1 v (sitesF (l.take k)).length ((sitesF (l.take k)).map (Value.int .i64)) ∧ Below w.heap.size w wr) (fun _ i _ => n - (intOf i).toNat)
  case atStart => exact ⟨0, Nat.zero_le _, rfl, by simpa [sitesF] using World.ownsRow_nil _ _ _ _, by exact belA⟩
  case round =>
    obtain ⟨k, hk, rfl, ho, hb⟩ := hrel
    by_cases hlt : k < n
    · obtain ⟨b, o, x0', x1', A2, n2, c2, s2, A3, n3, c3, s3, A4, n4, c4, s4, rfl, _, _, hl0, i0, i1, h2, h3, h4, d0, d1, d2, d3, d4⟩ := Stmt_at (h.below hb hh) hlt
      have hs := sitesF_succ (ss := l) (k := k) (by omega)
      rw [hl0] at hs
      have hln := sitesF_len (l.take k)
      rw [List.length_take] at hln
      have hbs := hb.size
      clear hl0
      by_cases h3 : x0' = 3
      · subst h3
        have hS := Lib.hid (hs.trans (by rw [if_pos rfl]))
        clear hs
        go_wp2_with (at_builtin; refine wpList_append_own _ rfl _ _ 37 rfl (w.heap.size + 1) 3 inf (.int .i64 0) 1 8 Try.underlying37 hif hz0 hz1 hz2 rfl (by decide) _ _ _ rfl ((ho.alloc _).alloc _) ⟨wr.heap.size + 1, 0, none⟩ 1 1 [.int .i64 k] rfl rfl (cell_new1 _ _ _ (by simp)) (by simp [Value.oneCell']) (by unfold maxLen; omega) (by omega) (by simp; omega) ?_)
        intro v' w2 hown hgr _
        have hb2 := below_own (ho.mono (Nat.le_succ _)) hgr (by exact belA)
        have ho2 : w2.ownsRow (w.heap.size + 1) 3 1 v' (sitesF (l.take (k + 1))).length ((sitesF (l.take (k + 1))).map (Value.int .i64)) := by
          rw [hS.out]; simpa using hown
        clear hown hgr ho
        go_wp2
        go_roundw
        case rel => exact ⟨k + 1, by omega, by go_num, ho2, hb2⟩
        case measure => simp [intOf]; omega
      · have hs : sitesF (l.take (k + 1)) = sitesF (l.take k) := hs.trans (by rw [if_neg h3, List.append_nil])
        rw [← hs] at ho
        clear hs
        have hd : (x0' == 3) = false := by simpa using h3
        clear h3
        go_wp2
        go_roundw
        case rel => exact ⟨k + 1, by omega, by go_num, ho.alloc _, by exact belA⟩
        case measure => simp [intOf]; omega
    · rw [List.take_of_length_le (by omega)] at ho
      have hm := sitesF_mem l
      go_wp2
      go_ret
      exact RetOwn.ints (ho.mono (Nat.le_succ _)) (fun x hx => by have := hm x hx; unfold I64; omega) hb
theorem specL3Sites (w : World) (lo hi : Nat) (x0 x1 : Int) (v2 : Value) (A : Option Addr) (n c : Nat) (l : List Stmt) (h : Sl StmtR w lo hi A n c l) (hh : hi ≤ w.heap.size) (hn : n ≤ 1048576) :
    Calls Try.prog 72 #[.agg #[.int .i64 x0, .int .i64 x1, v2, .slice A n c]] w (RetOwn intR 3 (sitesF l) w) := by
  have e1 := h.lenEq
  obtain ⟨inf, hif, hz0, hz1, hz2⟩ := info_parts Try.infoInt
  go_enter Try.func72, Try.ntmps72
  go_wp2_with fail
  go_loopw [3, 9] (fun v i wr => ∃ k : Nat, k ≤ n ∧ i = .int .i64 k ∧ wr.ownsRow (w.heap.size + 1) 3 1 v (sitesF (l.take k)).length ((sitesF (l.take k)).map (Value.int .i64)) ∧ Below w.heap.size w wr) (fun _ i _ => n - (intOf i).toNat)
  case atStart => exact ⟨0, Nat.zero_le _, rfl, by simpa [sitesF] using World.ownsRow_nil _ _ _ _, by exact belA⟩
  case round =>
    obtain ⟨k, hk, rfl, ho, hb⟩ := hrel
    by_cases hlt : k < n
    · obtain ⟨b, o, x0', x1', A2, n2, c2, s2, A3, n3, c3, s3, A4, n4, c4, s4, rfl, _, _, hl0, i0, i1, h2, h3, h4, d0, d1, d2, d3, d4⟩ := Stmt_at (h.below hb hh) hlt
      have hs := sitesF_succ (ss := l) (k := k) (by omega)
      rw [hl0] at hs
      have hln := sitesF_len (l.take k)
      rw [List.length_take] at hln
      have hbs := hb.size
      clear hl0
      by_cases h3 : x0' = 3
      · subst h3
        have hS := Lib.hid (hs.trans (by rw [if_pos rfl]))
        clear hs
        go_wp2_with (at_builtin; refine wpList_append_own _ rfl _ _ 37 rfl (w.heap.size + 1) 3 inf (.int .i64 0) 1 8 Try.underlying37 hif hz0 hz1 hz2 rfl (by decide) _ _ _ rfl ((ho.alloc _).alloc _) ⟨wr.heap.size + 1, 0, none⟩ 1 1 [.int .i64 k] rfl rfl (cell_new1 _ _ _ (by simp)) (by simp [Value.oneCell']) (by unfold maxLen; omega) (by omega) (by simp; omega) ?_)
        intro v' w2 hown hgr _
        have hb2 := below_own (ho.mono (Nat.le_succ _)) hgr (by exact belA)
        have ho2 : w2.ownsRow (w.heap.size + 1) 3 1 v' (sitesF (l.take (k + 1))).length ((sitesF (l.take (k + 1))).map (Value.int .i64)) := by
          rw [hS.out]; simpa using hown
        clear hown hgr ho
        go_wp2
        go_roundw
        case rel => exact ⟨k + 1, by omega, by go_num, ho2, hb2⟩
        case measure => simp [intOf]; omega
      · have hs : sitesF (l.take (k + 1)) = sitesF (l.take k) := hs.trans (by rw [if_neg h3, List.append_nil])
        rw [← hs] at ho
        clear hs
        have hd : (x0' == 3) = false := by simpa using h3
        clear h3
        go_wp2
        go_roundw
        case rel => exact ⟨k + 1, by omega, by go_num, ho.alloc _, by exact belA⟩
        case measure => simp [intOf]; omega
    · rw [List.take_of_length_le (by omega)] at ho
      have hm := sitesF_mem l
      go_wp2
      go_ret
      exact RetOwn.ints (ho.mono (Nat.le_succ _)) (fun x hx => by have := hm x hx; unfold I64; omega) hb
end Go.Proofs.Ytgoinmdnpaknpaa

/- Whether a statement is as said: walks of both sides. -/
set_option linter.unusedVariables false
set_option linter.unusedSimpArgs false
set_option maxRecDepth 100000
namespace Go.Proofs.Ytgoinmdnpaknpaa
open Go.RowKit

/-- As said; one that puts off the function -1 is, too. (np params, nx tokens, nt and ne in the blocks) -/
def stmtI (fv : Int) (ps : List Int) (k n : Int) (ex : List Tok) (np nx nt ne : Nat) : Bool :=
  if inB k 1 9 = false ∨ (¬ k = 7 ∧ 0 < ne) ∨ (¬ k = 7 ∧ ¬ k = 8 ∧ 0 < nt) then false
  else if k = 3 then (nx == 0) && (n == -1 || (inB n 0 ((np : Int) - 1) && ps.getD n.toNat 0 == 0))
  else if k = 6 then (nx == 0) && n == 0
  else if k = 1 then inB n 0 (fv - 1) && decide (0 < highF ex fv ps)
  else n == 0 && decide (0 < highF ex fv ps)
set_option maxHeartbeats 4000000 in
theorem implIsStmt (w : World) (lo hi lo' hi' : Nat) (u0 fv : Int) (v2 v3 : Value) (k n : Int) (A2 : Option Addr) (n2 c2 : Nat) (ex : List Tok) (A3 A4 : Option Addr) (n3 c3 n4 c4 : Nat) (A n' c' : _) (ps : List Int)
    (h2 : Sl TokR w lo hi A2 n2 c2 ex) (h : Sl intR w lo' hi' A n' c' ps) (hh : hi ≤ w.heap.size) (hh' : hi' ≤ w.heap.size) (hv : 0 ≤ fv ∧ fv ≤ 100) (hp : goodNeeds ps) (hn' : n' ≤ 100) (m3 : n3 ≤ 1048576) (m4 : n4 ≤ 1048576) :
    Calls Try.prog 81 #[.agg #[.int .i64 u0, .int .i64 fv, v2, v3], .agg #[.int .i64 k, .int .i64 n, .slice A2 n2 c2, .slice A3 n3 c3, .slice A4 n4 c4], .slice A n' c'] w (RetB (stmtI fv ps k n ex n' n2 n3 n4) w) := by
  have e1 := h.lenEq
  have e2 := h2.lenEq
  have b2 := h2.lenLe
  have HP := Lib.hid hp
  obtain ⟨v1, v2'⟩ := hv
  clear hp
  by_cases hN : 0 ≤ n ∧ n < (n' : Int)
  · obtain ⟨g1, g2⟩ := hN
    obtain ⟨j, rfl⟩ := Int.eq_ofNat_of_zero_le g1
    have hj : j < n' := by omega
    obtain ⟨b, o, rfl, _, _, hc1, _⟩ := h.int_at hj
    have hbw : b < w.heap.size := World.block_lt_of_cell? w _ hc1
    have hI : inB (j : Int) 0 ((n' : Int) - 1) = true := inB_true (by omega)
    have hG : ps[j]'(by omega) = ps.getD j 0 := by simp [List.getD, e1, hj]
    rw [hG] at hc1
    have hm : ((j : Int) == -1) = false := by first | (simp; done) | (simp; omega)
    clear hG
    clear e1 e2
    go_enter Try.func81, Try.ntmps81
    go_wp2_with (first
      | (go_at_call 45; ((with_reducible refine (implWithin _ _ _ _).mono ?_); rintro e w2 ⟨rfl, rfl⟩))
      | (go_at_call 111; ((with_reducible refine (implHighOf _ lo hi lo' hi' _ _ _ _ _ _ ex _ ps (h2.below (show Below w.heap.size w _ by exact belA) hh) (h.below (show Below w.heap.size w _ by exact belA) hh') (by first | omega | (simp; omega)) (by first | omega | (simp; omega)) (by omega) HP.out hn').mono ?_); rintro e w2 ⟨rfl, hb⟩)))
    all_goals
      go_ret
      exact RetB.mk (by simp_all [stmtI]) (by exact belA)
  · have hI : inB n 0 ((n' : Int) - 1) = false := inB_false (by omega)
    clear e1 e2 hN
    go_enter Try.func81, Try.ntmps81
    go_wp2_with (first
      | (go_at_call 45; ((with_reducible refine (implWithin _ _ _ _).mono ?_); rintro e w2 ⟨rfl, rfl⟩))
      | (go_at_call 111; ((with_reducible refine (implHighOf _ lo hi lo' hi' _ _ _ _ _ _ ex _ ps (h2.below (show Below w.heap.size w _ by exact belA) hh) (h.below (show Below w.heap.size w _ by exact belA) hh') (by first | omega | (simp; omega)) (by first | omega | (simp; omega)) (by omega) HP.out hn').mono ?_); rintro e w2 ⟨rfl, hb⟩)))
    all_goals
      go_ret
      exact RetB.mk (by simp_all [stmtI]) (by exact belA)

def stmtS (fv : Int) (ps : List Int) (k n : Int) (ex : List Tok) (np nx nt ne : Nat) : Bool :=
  if k = 1 then goodE ex fv ps && inB n 0 (fv - 1) && ((nt : Int) + ne == 0)
  else if k = 2 ∨ k = 4 ∨ k = 5 ∨ k = 9 then goodE ex fv ps && (n == 0 && ((nt : Int) + ne == 0))
  else if k = 3 then (nx == 0) && inB n 0 ((np : Int) - 1) && ((nt : Int) + ne == 0)
  else if k = 6 then (nx == 0) && (n == 0 && ((nt : Int) + ne == 0))
  else if k = 7 then goodE ex fv ps && n == 0
  else if k = 8 then goodE ex fv ps && n == 0 && ((ne : Int) == 0)
  else false
set_option maxHeartbeats 8000000 in
theorem specL3Stmt (w : World) (lo hi lo' hi' : Nat) (u0 fv : Int) (v2 v3 : Value) (k n : Int) (A2 : Option Addr) (n2 c2 : Nat) (ex : List Tok) (A3 A4 : Option Addr) (n3 c3 n4 c4 : Nat) (A n' c' : _) (ps : List Int)
    (h2 : Sl TokR w lo hi A2 n2 c2 ex) (h : Sl intR w lo' hi' A n' c' ps) (hh : hi ≤ w.heap.size) (hh' : hi' ≤ w.heap.size) (hv : 0 ≤ fv ∧ fv ≤ 100) (hn' : n' ≤ 100) (m2 : n2 ≤ 1048576) (m3 : n3 ≤ 1048576) (m4 : n4 ≤ 1048576) :
    Calls Try.prog 102 #[.agg #[.int .i64 u0, .int .i64 fv, v2, v3], .agg #[.int .i64 k, .int .i64 n, .slice A2 n2 c2, .slice A3 n3 c3, .slice A4 n4 c4], .slice A n' c'] w (RetB (stmtS fv ps k n ex n' n2 n3 n4) w) := by
  obtain ⟨v1, v2'⟩ := hv
  obtain ⟨gE, hgE0⟩ : ∃ g, g = goodE ex fv ps := ⟨_, rfl⟩
  have hgE := Lib.hid hgE0
  clear hgE0
  go_enter Try.func102, Try.ntmps102
  go_wp2_with fail
  refine (specGoodExpr _ lo hi lo' hi' _ _ _ _ _ _ ex fv ps (h2.below (show Below w.heap.size w _ by exact belA) hh) (h.below (show Below w.heap.size w _ by exact belA) hh') (by first | omega | (simp; omega)) (by first | omega | (simp; omega)) m2).mono ?_
  rintro e w2 ⟨rfl, hb2⟩
  rw [← hgE.out]
  obtain ⟨hcE, hfE⟩ := bcell hb2
  have hz2 := hb2.size
  have t1 : w2.cell? ⟨w.heap.size, 1, none⟩ = some (.int .i64 fv) := by simp [hcE, go_sem]
  have s0 : w2.cell? ⟨w.heap.size + 1, 0, none⟩ = some (.int .i64 k) := by simp [hcE, go_sem]
  have s1 : w2.cell? ⟨w.heap.size + 1, 1, none⟩ = some (.int .i64 n) := by simp [hcE, go_sem]
  have s2 : w2.cell? ⟨w.heap.size + 1, 2, none⟩ = some (.slice A2 n2 c2) := by simp [hcE, go_sem]
  have s3 : w2.cell? ⟨w.heap.size + 1, 3, none⟩ = some (.slice A3 n3 c3) := by simp [hcE, go_sem]
  have s4 : w2.cell? ⟨w.heap.size + 1, 4, none⟩ = some (.slice A4 n4 c4) := by simp [hcE, go_sem]
  clear hcE hfE
  have hb : Below w.heap.size w w2 := by exact belA
  have hq : stmtS fv ps k n ex n' n2 n3 n4 = stmtS fv ps k n ex n' n2 n3 n4 := rfl
  conv at hq => rhs; unfold stmtS; simp only [← hgE.out]
  have hQ := Lib.hid hq
  clear hq hgE hb2 hz2
  go_wp2_with (first
      | (go_at_call 44; ((with_reducible refine (specL1In _ _ _ _).mono ?_); rintro e w2 ⟨rfl, rfl⟩)))
  all_goals
    go_ret
    exact RetB.mk (by rw [hQ.out]; clear hQ; simp_all) hb
end Go.Proofs.Ytgoinmdnpaknpaa

/- A good program, said in two ways. Plain law. -/
set_option linter.unusedVariables false
set_option linter.unusedSimpArgs false
namespace Go.Proofs.Ytgoinmdnpaknpaa
open Go.RowKit

theorem stmt_same {fv : Int} {ps : List Int} {k n : Int} {ex : List Tok} {np nx nt ne : Nat} (hv : inB fv 0 6 = true) (hp : parB ps = true) :
    (stmtS fv ps k n ex np nx nt ne && (!decide (k = 3) || ps.getD n.toNat 0 == 0)) = (decide (0 ≤ n) && stmtI fv ps k n ex np nx nt ne) := by
  have hg : goodE ex fv ps = decide (0 < highF ex fv ps) := by simp [goodE, hv, hp]
  unfold stmtS stmtI
  rw [hg]
  generalize decide (0 < highF ex fv ps) = g
  generalize ps.getD n.toNat 0 = p
  by_cases hk : inB k 1 9 = true
  · have hk2 := inB_iff.1 hk
    have hk3 : k = 1 ∨ k = 2 ∨ k = 3 ∨ k = 4 ∨ k = 5 ∨ k = 6 ∨ k = 7 ∨ k = 8 ∨ k = 9 := by omega
    rcases hk3 with rfl | rfl | rfl | rfl | rfl | rfl | rfl | rfl | rfl
    all_goals
      simp only [hk]
      rw [Bool.eq_iff_iff]
      cases g <;> simp [inB]
      all_goals (try omega)
  · have hk : inB k 1 9 = false := by simpa using hk
    have hk2 : ¬ (1 ≤ k ∧ k ≤ 9) := fun h => by rw [inB_true h] at hk; cases hk
    rw [if_neg (by omega), if_neg (by omega), if_neg (by omega), if_neg (by omega), if_neg (by omega), if_neg (by omega), if_pos (Or.inl hk)]
    simp
end Go.Proofs.Ytgoinmdnpaknpaa

/- The order of the statements of a function, block by block. Plain law. -/
set_option linter.unusedVariables false
set_option linter.unusedSimpArgs false
namespace Go.Proofs.Ytgoinmdnpaknpaa
open Go.RowKit

def thenOf (ss : List Stmt) (n : Int) : List Int := (ss[n.toNat]?.map fun s => s.2.2.2.1).getD []
def elseOf (ss : List Stmt) (n : Int) : List Int := (ss[n.toNat]?.map fun s => s.2.2.2.2).getD []
/-- The statements of a block, each followed by those in it (with so much fuel). -/
def ordF (ss : List Stmt) : Nat → List Int → List Int
  | 0, _ => []
  | f + 1, b => b.flatMap fun n => n :: (ordF ss f (thenOf ss n) ++ ordF ss f (elseOf ss n))
def okB (ss : List Stmt) (lo : Nat) (b : List Int) : Prop := ∀ n, n ∈ b → (lo : Int) ≤ n ∧ n < (ss.length : Int)
def okAll (ss : List Stmt) : Prop := ∀ i, i < ss.length → okB ss (i + 1) (thenOf ss i) ∧ okB ss (i + 1) (elseOf ss i)
theorem okB.mono {ss : List Stmt} {lo lo' : Nat} {b : List Int} (h : okB ss lo b) (hl : lo' ≤ lo) : okB ss lo' b := fun n hn => by have := h n hn; omega
theorem ordF_append (ss : List Stmt) (f : Nat) (a b : List Int) : ordF ss f (a ++ b) = ordF ss f a ++ ordF ss f b := by
  cases f with
  | zero => rfl
  | succ f => simp [ordF, List.flatMap_append]
theorem ordF_nil (ss : List Stmt) (f : Nat) : ordF ss f [] = [] := by cases f <;> rfl
theorem ordF_cons (ss : List Stmt) (f : Nat) (n : Int) (b : List Int) : ordF ss (f + 1) (n :: b) = n :: (ordF ss f (thenOf ss n) ++ (ordF ss f (elseOf ss n) ++ ordF ss (f + 1) b)) := by
  simp [ordF, List.flatMap_cons, List.append_assoc]
theorem ordF_succ (ss : List Stmt) (f : Nat) (b : List Int) (k : Nat) (hk : k < b.length) : ordF ss (f + 1) (b.take (k + 1)) = ordF ss (f + 1) (b.take k) ++ ([b[k]] ++ (ordF ss f (thenOf ss b[k]) ++ ordF ss f (elseOf ss b[k]))) := by
  rw [List.take_succ_eq_append_getElem hk, ordF_append, ordF_cons, ordF_nil]; simp
/-- Less fuel is enough, where nothing lies so deep. -/
theorem ordF_fuel {ss : List Stmt} (ha : okAll ss) : ∀ (f g lo : Nat) (b : List Int), okB ss lo b → ss.length ≤ lo + f → ss.length ≤ lo + g → ordF ss f b = ordF ss g b := by
  intro f
  induction f with
  | zero =>
    intro g lo b hb hf hg
    have : b = [] := by
      rcases b with _ | ⟨n, b⟩
      · rfl
      · have := hb n (List.mem_cons_self ..); omega
    subst this
    rw [ordF_nil, ordF_nil]
  | succ f ih =>
    intro g lo b hb hf hg
    induction b with
    | nil => rw [ordF_nil, ordF_nil]
    | cons n b ihb =>
      have hn := hb n (List.mem_cons_self ..)
      cases g with
      | zero => omega
      | succ g =>
        have hn2 : n = ((n.toNat : Nat) : Int) := by omega
        obtain ⟨a1, a2⟩ := ha n.toNat (by omega)
        rw [← hn2] at a1 a2
        rw [ordF_cons, ordF_cons, ih g (n.toNat + 1) _ a1 (by omega) (by omega), ih g (n.toNat + 1) _ a2 (by omega) (by omega), ihb (fun m hm => hb m (List.mem_cons_of_mem _ hm))]
theorem ordF_mem {ss : List Stmt} (ha : okAll ss) : ∀ (f lo : Nat) (b : List Int), okB ss lo b → okB ss lo (ordF ss f b) := by
  intro f
  induction f with
  | zero => intro lo b _ n hn; simp [ordF] at hn
  | succ f ih =>
    intro lo b hb
    induction b with
    | nil => intro n hn; rw [ordF_nil] at hn; simp at hn
    | cons n b ihb =>
      have hn := hb n (List.mem_cons_self ..)
      have hn2 : n = ((n.toNat : Nat) : Int) := by omega
      obtain ⟨a1, a2⟩ := ha n.toNat (by omega)
      rw [← hn2] at a1 a2
      intro m hm
      rw [ordF_cons] at hm
      rcases List.mem_cons.1 hm with rfl | hm
      · exact hn
      rcases List.mem_append.1 hm with hm | hm
      · exact (ih _ _ a1).mono (by omega) m hm
      rcases List.mem_append.1 hm with hm | hm
      · exact (ih _ _ a2).mono (by omega) m hm
      · exact ihb (fun m hm => hb m (List.mem_cons_of_mem _ hm)) m hm
/-- How many numbers the blocks of the statements from one on hold. -/
def cntB (ss : List Stmt) (lo : Nat) : Nat := ((ss.drop lo).map fun s => s.2.2.2.1.length + s.2.2.2.2.length).sum
theorem cntB_at (ss : List Stmt) (i : Nat) (h : i < ss.length) : cntB ss i = (thenOf ss i).length + (elseOf ss i).length + cntB ss (i + 1) := by
  unfold cntB thenOf elseOf
  rw [List.drop_eq_getElem_cons h]
  simp only [List.map_cons, List.sum_cons, Int.toNat_natCast, List.getElem?_eq_getElem h, Option.map_some, Option.getD_some]
theorem cntB_le (ss : List Stmt) (d i : Nat) : cntB ss (i + d) ≤ cntB ss i := by
  induction d with
  | zero => exact Nat.le_refl _
  | succ d ih =>
    by_cases h : i + d < ss.length
    · have := cntB_at ss (i + d) h; rw [show i + (d + 1) = i + d + 1 by omega]; omega
    · have : cntB ss (i + (d + 1)) = 0 := by unfold cntB; rw [List.drop_eq_nil_of_le (by omega)]; rfl
      omega
theorem cntB_mono (ss : List Stmt) {i j : Nat} (h : i ≤ j) : cntB ss j ≤ cntB ss i := by
  have := cntB_le ss (j - i) i; rwa [show i + (j - i) = j by omega] at this
theorem ordF_len {ss : List Stmt} (ha : okAll ss) : ∀ (f lo : Nat) (b : List Int), okB ss lo b → (ordF ss f b).length + 1 ≤ 2 ^ (b.length + cntB ss lo) := by
  intro f
  induction f with
  | zero => intro lo b _; simp [ordF]; exact Nat.one_le_two_pow
  | succ f ih =>
    intro lo b hb
    induction b with
    | nil => rw [ordF_nil]; simp; exact Nat.one_le_two_pow
    | cons n b ihb =>
      have hn := hb n (List.mem_cons_self ..)
      have hn2 : n = ((n.toNat : Nat) : Int) := by omega
      obtain ⟨a1, a2⟩ := ha n.toNat (by omega)
      have hc := cntB_at ss n.toNat (by omega)
      rw [← hn2] at a1 a2 hc
      have h1 := ih (n.toNat + 1) (thenOf ss n ++ elseOf ss n) (fun m hm => by rcases List.mem_append.1 hm with h | h; exact a1 m h; exact a2 m h)
      rw [ordF_append, List.length_append, List.length_append, ← hc] at h1
      have h2 : (2 : Nat) ^ cntB ss n.toNat ≤ 2 ^ (b.length + cntB ss lo) := Nat.pow_le_pow_right (by omega) (by have := cntB_mono ss (i := lo) (j := n.toNat) (by omega); omega)
      have h3 := ihb (fun m hm => hb m (List.mem_cons_of_mem _ hm))
      rw [ordF_cons]
      have h4 : (2 : Nat) ^ ((n :: b).length + cntB ss lo) = 2 ^ (b.length + cntB ss lo) + 2 ^ (b.length + cntB ss lo) := by
        rw [show (n :: b).length + cntB ss lo = (b.length + cntB ss lo) + 1 by simp; omega, Nat.pow_succ]; omega
      rw [h4]
      simp only [List.length_cons, List.length_append]
      omega
theorem ordF_take_le (ss : List Stmt) (f k : Nat) (b : List Int) : (ordF ss f (b.take k)).length ≤ (ordF ss f b).length := by
  have : ordF ss f b = ordF ss f (b.take k) ++ ordF ss f (b.drop k) := by rw [← ordF_append, List.take_append_drop]
  rw [this]; simp
end Go.Proofs.Ytgoinmdnpaknpaa

/- The order of the statements: walks of both sides. -/
set_option linter.unusedVariables false
set_option linter.unusedSimpArgs false
set_option maxRecDepth 100000
namespace Go.Proofs.Ytgoinmdnpaknpaa
open Go.RowKit

/-- The call has appended to a row of ints; but for that row's block all old memory is as it was. -/
def RetGr (E : TypeId) (v : Value) (xs : List Int) (w : World) (e : Ending) (w' : World) : Prop :=
  ∃ v', e = .returned v' ∧ w'.ownsRow 0 E 1 v' xs.length (xs.map (Value.int .i64)) ∧ Fr v.ownBlock.toList w w' ∧ (v'.ownBlock = v.ownBlock ∨ ∀ g, v'.ownBlock = some g → w.heap.size ≤ g)
theorem fr_grown {w w' : World} {r : Option Nat} (h : w.grownBy w' r) : Fr r.toList w w' :=
  ⟨h.os, h.tape, h.output, h.size, fun k hk hn => h.block k hk (fun e => hn (by rw [← e]; simp))⟩
theorem gr_trans {a b c : World} {v v1 : Value} (h : Fr v.ownBlock.toList a b) (ho : v1.ownBlock = v.ownBlock ∨ ∀ g, v1.ownBlock = some g → a.heap.size ≤ g) (k : Fr v1.ownBlock.toList b c) : Fr v.ownBlock.toList a c := by
  refine ⟨k.os.trans h.os, k.tape.trans h.tape, k.output.trans h.output, Nat.le_trans h.size k.size, fun i hi hn => ?_⟩
  rw [k.block i (Nat.lt_of_lt_of_le hi h.size) ?_, h.block i hi hn]
  intro hx
  rcases ho with ho | ho
  · rw [ho] at hx; exact hn hx
  · have := ho i (by simpa using hx); omega
theorem own_trans {a b : World} {v v1 v2 : Value} (hs : a.heap.size ≤ b.heap.size) (ho : v1.ownBlock = v.ownBlock ∨ ∀ g, v1.ownBlock = some g → a.heap.size ≤ g) (h2 : v2.ownBlock = v1.ownBlock ∨ ∀ g, v2.ownBlock = some g → b.heap.size ≤ g) : v2.ownBlock = v.ownBlock ∨ ∀ g, v2.ownBlock = some g → a.heap.size ≤ g := by
  rcases h2 with h2 | h2
  · rw [h2]; exact ho
  · exact Or.inr fun g hg => Nat.le_trans hs (h2 g hg)
theorem own_at {v v' : Value} {n : Nat} {w : World} (h : v'.ownBlock = v.ownBlock ∨ v'.ownBlock = some n) (hn : w.heap.size ≤ n) : v'.ownBlock = v.ownBlock ∨ ∀ g, v'.ownBlock = some g → w.heap.size ≤ g := by
  rcases h with h | h
  · exact Or.inl h
  · exact Or.inr fun g hg => by rw [h] at hg; injection hg with hg; omega

/-- The blocks of a statement, out of the cells that hold the statements. -/
theorem stmt_blocks {w : World} {lo hi : Nat} {A : Option Addr} {n c k : Nat} {l : List Stmt} (h : Sl StmtR w lo hi A n c l) (hk : k < n) :
    ∃ b off A3 n3 c3 A4 n4 c4, A = some ⟨b, off, none⟩ ∧ lo ≤ b ∧ b < hi ∧ Sl intR w lo hi A3 n3 c3 (thenOf l (k : Int)) ∧ Sl intR w lo hi A4 n4 c4 (elseOf l (k : Int)) ∧ w.cell? ⟨b, off + k * 5 + 3, none⟩ = some (.slice A3 n3 c3) ∧ w.cell? ⟨b, off + k * 5 + 4, none⟩ = some (.slice A4 n4 c4) := by
  have e1 := h.lenEq
  obtain ⟨b, o, x0, x1, A2, n2, c2, s2, A3, n3, c3, s3, A4, n4, c4, s4, rfl, h1, h2, hl0, _, _, _, h3, h4, d0, d1, d2, d3, d4⟩ := Stmt_at h hk
  refine ⟨b, o, A3, n3, c3, A4, n4, c4, rfl, h1, h2, ?_, ?_, d3, d4⟩
  · unfold thenOf; rw [show ((k : Int)).toNat = k from rfl, List.getElem?_eq_getElem (by omega), hl0]; exact h3
  · unfold elseOf; rw [show ((k : Int)).toNat = k from rfl, List.getElem?_eq_getElem (by omega), hl0]; exact h4

/-- A cell that stands as it stood in an elder world, behind two steps. -/
theorem cell_back {F : List Nat} {a b : World} {p o : Nat} {v v' : Value} (hf : Fr F a b) (hn : ¬ p ∈ F) (h : a.cell? ⟨p, o, none⟩ = some v) (h' : b.cell? ⟨p, o, none⟩ = some v') : v' = v := by
  have := cell_fr hf hn h
  rw [h'] at this; injection this
theorem own_fr0 {w w' : World} {base : Nat} {e : TypeId} {size n : Nat} {v : Value} {xs : List Value} (h : w.ownsRow base e size v n xs) (hf : Fr [] w w') : w'.ownsRow base e size v n xs :=
  ownsRow_keep0 h fun k hk => hf.block k (h.lt k hk).2 (by simp)
theorem own_later {v v' : Value} {a b : Nat} (hs : a ≤ b) (h : v'.ownBlock = v.ownBlock ∨ ∀ g, v'.ownBlock = some g → b ≤ g) : v'.ownBlock = v.ownBlock ∨ ∀ g, v'.ownBlock = some g → a ≤ g := by
  rcases h with h | h
  · exact Or.inl h
  · exact Or.inr fun g hg => Nat.le_trans hs (h g hg)
theorem hd_of {v u : Value} {lo hi blo bhi N : Nat} (HD : ∀ g, v.ownBlock = some g → (g < lo ∨ hi ≤ g) ∧ (g < blo ∨ bhi ≤ g)) (h : u.ownBlock = v.ownBlock ∨ ∀ g, u.ownBlock = some g → N ≤ g) (hN : hi ≤ N) : ∀ g, u.ownBlock = some g → (g < lo ∨ hi ≤ g) ∧ (g < lo ∨ hi ≤ g) := by
  intro g hg
  rcases h with h | h
  · rw [h] at hg; exact ⟨(HD g hg).1, (HD g hg).1⟩
  · have := h g hg; omega
theorem own_drew {w : World} {base : Nat} {e : TypeId} {size n : Nat} {v : Value} {xs : List Value} (h : w.ownsRow base e size v n xs) : w.drew.ownsRow base e size v n xs := h
theorem fr_undrew {F : List Nat} {a b : World} (h : Fr F a.drew b) : Fr F a b := ⟨h.os, h.tape, h.output, h.size, h.block⟩
set_option maxHeartbeats 4000000 in
theorem implOrderOf (fuel : Nat) : ∀ (w : World) (lo hi blo bhi : Nat) (x0 x1 : Int) (v2 : Value) (A : Option Addr) (n c : Nat) (ss : List Stmt) (Ab : Option Addr) (nb cb : Nat) (bl : List Int) (v : Value) (xs : List Int) (lb : Nat)
    (h : Sl StmtR w lo hi A n c ss) (hb : Sl intR w blo bhi Ab nb cb bl) (hh : hi ≤ w.heap.size) (hh' : bhi ≤ w.heap.size) (ho : w.ownsRow 0 3 1 v xs.length (xs.map (Value.int .i64)))
    (hd : ∀ g, v.ownBlock = some g → (g < lo ∨ hi ≤ g) ∧ (g < blo ∨ bhi ≤ g)) (ha : okAll ss) (hok : okB ss lb bl) (hf : ss.length ≤ lb + fuel) (hlen : xs.length + (ordF ss (fuel + 1) bl).length ≤ 1099511627776),
    Calls Try.prog 109 #[.agg #[.int .i64 x0, .int .i64 x1, v2, .slice A n c], .slice Ab nb cb, v] w (RetGr 3 v (xs ++ ordF ss (fuel + 1) bl) w) := by
  induction fuel using Nat.strongRecOn with
  | ind fuel ih =>
    intro w lo hi blo bhi x0 x1 v2 A n c ss Ab nb cb bl v xs lb h hb hh hh' ho hd ha hok hf hlen
    have IH := Lib.hid ih
    clear ih
    have e1 := Lib.hid h.lenEq
    have e2 := hb.lenEq
    have b2 := hb.lenLe
    have HD := Lib.hid hd
    have HA := Lib.hid ha
    have HO := Lib.hid hok
    have hB0 : ¬ w.heap.size ∈ v.ownBlock.toList := by
      intro hx
      have := (ho.lt w.heap.size (by simpa using hx)).2
      omega
    clear hd ha hok
    obtain ⟨inf, hif, hz0, hz1, hz2⟩ := info_parts Try.infoInt
    go_enter Try.func109, Try.ntmps109
    go_wp2_with fail
    go_loopw [2, 11] (fun v' i wr => ∃ k : Nat, k ≤ nb ∧ i = .int .i64 k ∧ wr.ownsRow 0 3 1 v' (xs ++ ordF ss (fuel + 1) (bl.take k)).length ((xs ++ ordF ss (fuel + 1) (bl.take k)).map (Value.int .i64)) ∧ Fr v.ownBlock.toList (w.alloc (.cells #[.int .i64 x0, .int .i64 x1, v2, .slice A n c] 97)) wr ∧ (v'.ownBlock = v.ownBlock ∨ ∀ g, v'.ownBlock = some g → (w.alloc (.cells #[.int .i64 x0, .int .i64 x1, v2, .slice A n c] 97)).heap.size ≤ g)) (fun _ i _ => nb - (intOf i).toNat)
    case atStart => exact ⟨0, Nat.zero_le _, rfl, by simpa [ordF_nil] using ho.alloc _, Fr.refl _ _, Or.inl rfl⟩
    case round =>
      rename_i v1 _
      obtain ⟨k, hk, rfl, ho1, hfr, hrl⟩ := hrel
      by_cases hlt : k < nb
      · have hfw : Fr v.ownBlock.toList w wr := Fr.trans (Fr.alloc (Fr.refl _ w) _) hfr
        have hbw := hb.fr hfw hh' (fun g hg => (HD.out g (by simpa using hg)).2)
        obtain ⟨b, o, rfl, _, _, hc1, _⟩ := hbw.int_at hlt
        have hx := HO.out (bl[k]'(by omega)) (List.getElem_mem _)
        have hs0 := ordF_succ ss fuel bl k (by omega)
        have hle := ordF_take_le ss (fuel + 1) (k + 1) bl
        generalize bl[k]'(by omega) = x at hc1 hx hs0
        obtain ⟨x1', x2'⟩ := hx
        obtain ⟨j, rfl⟩ := Int.eq_ofNat_of_zero_le (show 0 ≤ x by omega)
        obtain ⟨f, rfl⟩ : ∃ f, fuel = f + 1 := ⟨fuel - 1, by omega⟩
        have hj : j < n := by have := e1.out; omega
        have hle2 := hle
        rw [hs0] at hle2
        simp only [List.length_append, List.length_cons, List.length_nil] at hle2
        have hs := Lib.hid hs0
        clear hs0 hle
        have hle := hle2
        clear hle2
        obtain ⟨bb, oo, A3, n3, c3, A4, n4, c4, rfl, hb1, hb2, hT, hE, d3, d4⟩ := stmt_blocks h hj
        have hbn : ¬ bb ∈ v.ownBlock.toList := fun hx => by have := (HD.out bb (by simpa using hx)).1; omega
        have a12 := HA.out j (by omega)
        have hK3 := Lib.hid a12.1
        have hK4 := Lib.hid a12.2
        clear a12
        obtain ⟨ys, hys0⟩ : ∃ ys, ys = xs ++ ordF ss (f + 1 + 1) (bl.take k) := ⟨_, rfl⟩
        rw [← hys0] at ho1
        have hyl : ys.length = xs.length + (ordF ss (f + 1 + 1) (bl.take k)).length := by rw [hys0]; simp
        have hyl2 : ys.length + (1 + ((ordF ss (f + 1) (thenOf ss j)).length + (ordF ss (f + 1) (elseOf ss j)).length)) ≤ 1099511627776 := by omega
        have hys := Lib.hid hys0
        clear hys0 hyl hle hlen
        go_wp2_with (at_builtin; refine wpList_append_own_at _ rfl _ _ 37 rfl 0 3 inf (.int .i64 0) 1 8 Try.underlying37 hif hz0 hz1 hz2 rfl (by decide) _ _ _ rfl (ho1.alloc _) ⟨wr.heap.size, 0, none⟩ 1 1 [.int .i64 j] rfl rfl (cell_new1 _ _ _ (by simp)) (by simp [Value.oneCell']) (by unfold maxLen; omega) (by omega) (by omega) ?_)
        intro v2' w2 hown hgr _ hat
        have ho2 : w2.ownsRow 0 3 1 v2' (ys ++ [(j : Int)]).length ((ys ++ [(j : Int)]).map (Value.int .i64)) := by simpa using hown
        have hfr2 := gr_trans hfr hrl (Fr.trans (Fr.alloc (Fr.refl _ wr) _) (fr_grown hgr))
        have hrl2 := own_trans hfr.size hrl (own_at hat (by simp))
        clear hown hgr hat ho1
        have hfw2 : Fr v.ownBlock.toList w w2 := Fr.trans (Fr.alloc (Fr.refl _ w) _) hfr2
        have p20 : w2.cell? ⟨w.heap.size, 0, none⟩ = some (.int .i64 x0) := cell_fr hfr2 hB0 (by simp [go_sem])
        have p21 : w2.cell? ⟨w.heap.size, 1, none⟩ = some (.int .i64 x1) := cell_fr hfr2 hB0 (by simp [go_sem])
        have p22 : w2.cell? ⟨w.heap.size, 2, none⟩ = some (v2) := cell_fr hfr2 hB0 (by simp [go_sem])
        have p23 : w2.cell? ⟨w.heap.size, 3, none⟩ = some (.slice (some ⟨bb, oo, none⟩) n c) := cell_fr hfr2 hB0 (by simp [go_sem])
        have p24 : w2.cell? ⟨bb, oo + j * 5 + 3, none⟩ = some (.slice A3 n3 c3) := cell_fr hfw2 hbn d3
        have p25 : w2.cell? ⟨bb, oo + j * 5 + 4, none⟩ = some (.slice A4 n4 c4) := cell_fr hfw2 hbn d4
        have hD2 := Lib.hid (hd_of (hi := hi) HD.out hrl2 (by simp; omega))
        have hS2 := h.fr hfw2 hh (fun g hg => (HD.out g (by simpa using hg)).1)
        have hT2 := hT.fr hfw2 hh (fun g hg => (HD.out g (by simpa using hg)).1)
        have hy2 : hi ≤ w2.heap.size := Nat.le_trans hh hfw2.size
        go_wp2_with fail
        go_region_held3 (fun W => W.cell? ⟨w.heap.size, 0, none⟩ = some (.int .i64 x0) ∧ W.cell? ⟨w.heap.size, 1, none⟩ = some (.int .i64 x1) ∧ W.cell? ⟨w.heap.size, 2, none⟩ = some (v2) ∧ W.cell? ⟨w.heap.size, 3, none⟩ = some (.slice (some ⟨bb, oo, none⟩) n c) ∧ W.cell? ⟨bb, oo + j * 5 + 3, none⟩ = some (.slice A3 n3 c3))
                  (first | exact ⟨p20, p21, p22, p23, p24⟩ | exact ⟨p30, p31, p32, p33, p34⟩)
                  ((go_at_call 109; ((with_reducible refine (IH.out f (by omega) _ lo hi lo hi x0 x1 v2 _ n c ss A3 n3 c3 _ v2' (ys ++ [(j : Int)]) (j + 1) (hS2.fr (show Fr [] w2 _ by exact frcA) hy2 (by simp)) (hT2.fr (show Fr [] w2 _ by exact frcA) hy2 (by simp)) (Nat.le_trans hy2 (show Fr [] w2 _ by exact frcA).size) (Nat.le_trans hy2 (show Fr [] w2 _ by exact frcA).size) (own_fr0 ho2 (show Fr [] w2 _ by exact frcA)) hD2.out HA.out hK3.out (by omega) (by simp only [List.length_append, List.length_cons, List.length_nil]; omega)).mono ?_); rintro e w3 ⟨v3', rfl, ho3, hx3, hz3⟩; have hfr3 := gr_trans hfr2 hrl2 (Fr.trans ((show Fr [] w2 _ by exact frcA).more (by simp)) hx3); have hrl3 := own_trans hfr2.size hrl2 (own_later (show Fr [] w2 _ by exact frcA).size hz3); have hfw3 : Fr v.ownBlock.toList w w3 := Fr.trans (Fr.alloc (Fr.refl _ w) _) hfr3; have p30 : w3.cell? ⟨w.heap.size, 0, none⟩ = some (.int .i64 x0) := cell_fr hfr3 hB0 (by simp [go_sem]); have p31 : w3.cell? ⟨w.heap.size, 1, none⟩ = some (.int .i64 x1) := cell_fr hfr3 hB0 (by simp [go_sem]); have p32 : w3.cell? ⟨w.heap.size, 2, none⟩ = some (v2) := cell_fr hfr3 hB0 (by simp [go_sem]); have p33 : w3.cell? ⟨w.heap.size, 3, none⟩ = some (.slice (some ⟨bb, oo, none⟩) n c) := cell_fr hfr3 hB0 (by simp [go_sem]); have p34 : w3.cell? ⟨bb, oo + j * 5 + 3, none⟩ = some (.slice A3 n3 c3) := cell_fr hfw3 hbn d3; have p35 : w3.cell? ⟨bb, oo + j * 5 + 4, none⟩ = some (.slice A4 n4 c4) := cell_fr hfw3 hbn d4)))
        clear hS2 hT2 p20 p21 p22 p23 p24 p25
        have hD3 := Lib.hid (hd_of (hi := hi) HD.out hrl3 (by simp; omega))
        have hS3 := h.fr hfw3 hh (fun g hg => (HD.out g (by simpa using hg)).1)
        have hT3 := hE.fr hfw3 hh (fun g hg => (HD.out g (by simpa using hg)).1)
        have hy3 : hi ≤ w3.heap.size := Nat.le_trans hh hfw3.size
        go_wp2_with fail
        go_region_held3 (fun W => W.cell? ⟨w.heap.size, 0, none⟩ = some (.int .i64 x0) ∧ W.cell? ⟨w.heap.size, 1, none⟩ = some (.int .i64 x1) ∧ W.cell? ⟨w.heap.size, 2, none⟩ = some (v2) ∧ W.cell? ⟨w.heap.size, 3, none⟩ = some (.slice (some ⟨bb, oo, none⟩) n c) ∧ W.cell? ⟨bb, oo + j * 5 + 4, none⟩ = some (.slice A4 n4 c4))
                  (first | exact ⟨p30, p31, p32, p33, p35⟩ | exact ⟨p40, p41, p42, p43, p45⟩)
                  ((go_at_call 109; ((with_reducible refine (IH.out f (by omega) _ lo hi lo hi x0 x1 v2 _ n c ss A4 n4 c4 _ v3' ((ys ++ [(j : Int)]) ++ ordF ss (f + 1) (thenOf ss j)) (j + 1) (hS3.fr (show Fr [] w3 _ by exact frcA) hy3 (by simp)) (hT3.fr (show Fr [] w3 _ by exact frcA) hy3 (by simp)) (Nat.le_trans hy3 (show Fr [] w3 _ by exact frcA).size) (Nat.le_trans hy3 (show Fr [] w3 _ by exact frcA).size) (own_fr0 ho3 (show Fr [] w3 _ by exact frcA)) hD3.out HA.out hK4.out (by omega) (by simp only [List.length_append, List.length_cons, List.length_nil]; omega)).mono ?_); rintro e w4 ⟨v4', rfl, ho4, hx4, hz4⟩; have hfr4 := gr_trans hfr3 hrl3 (Fr.trans ((show Fr [] w3 _ by exact frcA).more (by simp)) hx4); have hrl4 := own_trans hfr3.size hrl3 (own_later (show Fr [] w3 _ by exact frcA).size hz4); have hfw4 : Fr v.ownBlock.toList w w4 := Fr.trans (Fr.alloc (Fr.refl _ w) _) hfr4; have p40 : w4.cell? ⟨w.heap.size, 0, none⟩ = some (.int .i64 x0) := cell_fr hfr4 hB0 (by simp [go_sem]); have p41 : w4.cell? ⟨w.heap.size, 1, none⟩ = some (.int .i64 x1) := cell_fr hfr4 hB0 (by simp [go_sem]); have p42 : w4.cell? ⟨w.heap.size, 2, none⟩ = some (v2) := cell_fr hfr4 hB0 (by simp [go_sem]); have p43 : w4.cell? ⟨w.heap.size, 3, none⟩ = some (.slice (some ⟨bb, oo, none⟩) n c) := cell_fr hfr4 hB0 (by simp [go_sem]); have p44 : w4.cell? ⟨bb, oo + j * 5 + 3, none⟩ = some (.slice A3 n3 c3) := cell_fr hfw4 hbn d3; have p45 : w4.cell? ⟨bb, oo + j * 5 + 4, none⟩ = some (.slice A4 n4 c4) := cell_fr hfw4 hbn d4)))
        have hfin : w4.ownsRow 0 3 1 v4' (xs ++ ordF ss (f + 1 + 1) (bl.take (k + 1))).length ((xs ++ ordF ss (f + 1 + 1) (bl.take (k + 1))).map (Value.int .i64)) := by
          have e : xs ++ ordF ss (f + 1 + 1) (bl.take (k + 1)) = ((ys ++ [(j : Int)]) ++ ordF ss (f + 1) (thenOf ss j)) ++ ordF ss (f + 1) (elseOf ss j) := by rw [hs.out, hys.out]; simp
          rw [e]; exact ho4
        go_wp2_with fail
        go_roundw
        case rel => exact ⟨k + 1, by omega, by go_num, hfin, hfr4, hrl4⟩
        case measure => simp [intOf]; omega
      · rw [List.take_of_length_le (by omega)] at ho1
        go_wp2_with fail
        go_ret
        exact ⟨_, rfl, ho1, Fr.trans (Fr.alloc (Fr.refl _ w) _) hfr, own_later (a := w.heap.size) (by simp) hrl⟩
end Go.Proofs.Ytgoinmdnpaknpaa

/- The order of the statements: the reference's walk. -/
set_option linter.unusedVariables false
set_option linter.unusedSimpArgs false
set_option maxRecDepth 100000
namespace Go.Proofs.Ytgoinmdnpaknpaa
open Go.RowKit
theorem cell_grow {a c : World} {B : Nat} {e : TypeId} {size n b o : Nat} {v u : Value} {xs : List Value} (ho : a.ownsRow B e size v n xs) (hg : a.grownBy c v.ownBlock) (hb : b < B) (h : a.cell? ⟨b, o, none⟩ = some u) : c.cell? ⟨b, o, none⟩ = some u :=
  hg.cell h (fun e => by have := (ho.lt b e.symm).1; omega)
theorem row_fr0 {w w' : World} {base : Nat} {e : TypeId} {size n : Nat} {v : Value} {xs : List Value} (h : w.ownsRow base e size v n xs) (hb : Below w.heap.size w w') : w'.ownsRow base e size v n xs := ownsRow_below h hb
set_option maxHeartbeats 4000000 in
theorem specL3Order (fuel : Nat) : ∀ (w : World) (lo hi blo bhi : Nat) (x0 x1 : Int) (v2 : Value) (A : Option Addr) (n c : Nat) (ss : List Stmt) (Ab : Option Addr) (nb cb : Nat) (bl : List Int) (lb : Nat)
    (h : Sl StmtR w lo hi A n c ss) (hb : Sl intR w blo bhi Ab nb cb bl) (hh : hi ≤ w.heap.size) (hh' : bhi ≤ w.heap.size) (ha : okAll ss) (hok : okB ss lb bl) (hf : ss.length ≤ lb + fuel) (hlen : (ordF ss (fuel + 1) bl).length ≤ 1099511627776) (hns : ss.length ≤ 1099511627776),
    Calls Try.prog 101 #[.agg #[.int .i64 x0, .int .i64 x1, v2, .slice A n c], .slice Ab nb cb] w (RetOwn intR 3 (ordF ss (fuel + 1) bl) w) := by
  induction fuel using Nat.strongRecOn with
  | ind fuel ih =>
    intro w lo hi blo bhi x0 x1 v2 A n c ss Ab nb cb bl lb h hb hh hh' ha hok hf hlen hns
    have IH := Lib.hid ih
    clear ih
    have e1 := Lib.hid h.lenEq
    have e2 := hb.lenEq
    have b2 := hb.lenLe
    have HA := Lib.hid ha
    have HO := Lib.hid hok
    have HM := Lib.hid (ordF_mem ha (fuel + 1) lb bl hok)
    clear ha hok
    obtain ⟨inf, hif, hz0, hz1, hz2⟩ := info_parts Try.infoInt
    go_enter Try.func101, Try.ntmps101
    go_wp2_with fail
    go_loopw [5, 10] (fun v' i wr => ∃ k : Nat, k ≤ nb ∧ i = .int .i64 k ∧ wr.ownsRow (w.heap.size + 1) 3 1 v' (ordF ss (fuel + 1) (bl.take k)).length ((ordF ss (fuel + 1) (bl.take k)).map (Value.int .i64)) ∧ Below (w.heap.size + 1) (w.alloc (.cells #[.int .i64 x0, .int .i64 x1, v2, .slice A n c] 97)) wr) (fun _ i _ => nb - (intOf i).toNat)
    case atStart => exact ⟨0, Nat.zero_le _, rfl, by simpa [ordF_nil] using World.ownsRow_nil _ _ _ _, Below.refl _ _⟩
    case round =>
      obtain ⟨k, hk, rfl, ho1, hbl⟩ := hrel
      have hbw : Below w.heap.size w wr := ((Below.refl _ w).alloc (Nat.le_refl _) _).trans (hbl.mono (Nat.le_succ _))
      by_cases hlt : k < nb
      · obtain ⟨b, o, rfl, _, _, hc1, _⟩ := (hb.below hbw hh').int_at hlt
        have hx := HO.out (bl[k]'(by omega)) (List.getElem_mem _)
        have hs0 := ordF_succ ss fuel bl k (by omega)
        have hle := ordF_take_le ss (fuel + 1) (k + 1) bl
        generalize bl[k]'(by omega) = x at hc1 hx hs0
        obtain ⟨x1', x2'⟩ := hx
        obtain ⟨j, rfl⟩ := Int.eq_ofNat_of_zero_le (show 0 ≤ x by omega)
        obtain ⟨f, rfl⟩ : ∃ f, fuel = f + 1 := ⟨fuel - 1, by omega⟩
        have hj : j < n := by have := e1.out; omega
        have hle2 := hle
        rw [hs0] at hle2
        simp only [List.length_append, List.length_cons, List.length_nil] at hle2
        have hs := Lib.hid hs0
        clear hs0 hle
        obtain ⟨bb, oo, A3, n3, c3, A4, n4, c4, rfl, hb1, hb2, hT, hE, d3, d4⟩ := stmt_blocks h hj
        have a12 := HA.out j (by omega)
        have hK3 := Lib.hid a12.1
        have hK4 := Lib.hid a12.2
        clear a12
        obtain ⟨ys, hys0⟩ : ∃ ys, ys = ordF ss (f + 1 + 1) (bl.take k) := ⟨_, rfl⟩
        rw [← hys0] at ho1 hle2
        have hyl2 : ys.length + (1 + ((ordF ss (f + 1) (thenOf ss j)).length + (ordF ss (f + 1) (elseOf ss j)).length)) ≤ 1099511627776 := by omega
        have hys := Lib.hid hys0
        clear hys0 hle2 hlen
        have hzr := hbl.size
        simp at hzr
        go_wp2_with (at_builtin; refine wpList_append_own_at _ rfl _ _ 37 rfl (w.heap.size + 1) 3 inf (.int .i64 0) 1 8 Try.underlying37 hif hz0 hz1 hz2 rfl (by decide) _ _ _ rfl (ho1.alloc _) ⟨wr.heap.size, 0, none⟩ 1 1 [.int .i64 j] rfl rfl (cell_new1 _ _ _ (by simp)) (by simp [Value.oneCell']) (by unfold maxLen; omega) (by omega) (by simp; omega) ?_)
        intro v2' w2 hown hgr _ hat
        have ho2 : w2.ownsRow (w.heap.size + 1) 3 1 v2' (ys ++ [(j : Int)]).length ((ys ++ [(j : Int)]).map (Value.int .i64)) := by simpa using hown
        have hbl2 : Below (w.heap.size + 1) (w.alloc (.cells #[.int .i64 x0, .int .i64 x1, v2, .slice (some ⟨bb, oo, none⟩) n c] 97)) w2 := (hbl.alloc (by omega) _).grown hgr (by simp; omega) (fun g hg => (ho1.lt g hg).1)
        clear hown hgr hat ho1
        have hbw2 : Below w.heap.size w w2 := ((Below.refl _ w).alloc (Nat.le_refl _) _).trans (hbl2.mono (Nat.le_succ _))
        have p20 : w2.cell? ⟨w.heap.size, 0, none⟩ = some (.int .i64 x0) := (hbl2.cell (p := ⟨w.heap.size, 0, none⟩) (by simp)).trans (by simp [go_sem])
        have p21 : w2.cell? ⟨w.heap.size, 1, none⟩ = some (.int .i64 x1) := (hbl2.cell (p := ⟨w.heap.size, 1, none⟩) (by simp)).trans (by simp [go_sem])
        have p22 : w2.cell? ⟨w.heap.size, 2, none⟩ = some (v2) := (hbl2.cell (p := ⟨w.heap.size, 2, none⟩) (by simp)).trans (by simp [go_sem])
        have p23 : w2.cell? ⟨w.heap.size, 3, none⟩ = some (.slice (some ⟨bb, oo, none⟩) n c) := (hbl2.cell (p := ⟨w.heap.size, 3, none⟩) (by simp)).trans (by simp [go_sem])
        have p24 : w2.cell? ⟨bb, oo + j * 5 + 3, none⟩ = some (.slice A3 n3 c3) := below_cell hbw2 d3
        have p25 : w2.cell? ⟨bb, oo + j * 5 + 4, none⟩ = some (.slice A4 n4 c4) := below_cell hbw2 d4
        have hS2 := h.below hbw2 hh
        have hT2 := hT.below hbw2 hh
        have hy2 : hi ≤ w2.heap.size := Nat.le_trans hh hbw2.size
        have hzi2 := hbl2.size
        simp at hzi2
        go_wp2_with fail
        go_region_held3 (fun W => W.cell? ⟨w.heap.size, 0, none⟩ = some (.int .i64 x0) ∧ W.cell? ⟨w.heap.size, 1, none⟩ = some (.int .i64 x1) ∧ W.cell? ⟨w.heap.size, 2, none⟩ = some (v2) ∧ W.cell? ⟨w.heap.size, 3, none⟩ = some (.slice (some ⟨bb, oo, none⟩) n c) ∧ W.cell? ⟨bb, oo + j * 5 + 3, none⟩ = some (.slice A3 n3 c3))
                  (first | exact ⟨p20, p21, p22, p23, p24⟩ | exact ⟨below_cell hq2 p20, below_cell hq2 p21, below_cell hq2 p22, below_cell hq2 p23, below_cell hq2 p24⟩ | exact ⟨(cell_grow oc2 hgr2 (by omega) (below_cell hq2 p20)), (cell_grow oc2 hgr2 (by omega) (below_cell hq2 p21)), (cell_grow oc2 hgr2 (by omega) (below_cell hq2 p22)), (cell_grow oc2 hgr2 (by omega) (below_cell hq2 p23)), (cell_grow oc2 hgr2 (by omega) (below_cell hq2 p24))⟩)
                  (first | (go_at_call 101; ((with_reducible refine (IH.out f (by omega) _ lo hi lo hi x0 x1 v2 _ n c ss A3 n3 c3 _ (j + 1) (hS2.below (show Below w2.heap.size w2 _ by exact belA) hy2) (hT2.below (show Below w2.heap.size w2 _ by exact belA) hy2) (Nat.le_trans hy2 (show Below w2.heap.size w2 _ by exact belA).size) (Nat.le_trans hy2 (show Below w2.heap.size w2 _ by exact belA).size) HA.out hK3.out (by omega) (by omega) hns).mono ?_); rintro e wc2 ⟨F2, Ar2, nr2, cr2, rfl, or2, fr2, hx2⟩; have hq2 : Below w2.heap.size w2 wc2 := (by exact belA); have oc2 := ownsRow_below ho2 hq2; have lr2 := or2.sl.lenEq; have zq2 := hq2.size; have hblc2 := hbl2.trans (hq2.mono (by omega)))) | (refine step_append_src _ (by rfl) _ _ 37 (by rfl) (w.heap.size + 1) 3 inf (.int .i64 0) 1 8 Try.underlying37 hif hz0 hz1 hz2 rfl (by decide) _ _ _ (by rfl) oc2 Ar2 nr2 cr2 _ (by rfl) (src_ints or2.sl) (ints_oneCell _) (by unfold maxLen; simp only [List.length_append, List.length_cons, List.length_nil]; omega) (by simp only [List.length_append, List.length_cons, List.length_nil]; omega) (show w.heap.size + 1 ≤ wc2.heap.size by omega) ?_; intro v3' w3 hown2 hgr2 hat2) | fail)
        have ho3 : w3.ownsRow (w.heap.size + 1) 3 1 v3' ((ys ++ [(j : Int)]) ++ ordF ss (f + 1) (thenOf ss j)).length (((ys ++ [(j : Int)]) ++ ordF ss (f + 1) (thenOf ss j)).map (Value.int .i64)) := by
          rw [List.length_append, List.map_append, lr2]; exact hown2
        have hbl3 : Below (w.heap.size + 1) (w.alloc (.cells #[.int .i64 x0, .int .i64 x1, v2, .slice (some ⟨bb, oo, none⟩) n c] 97)) w3 := hblc2.grown hgr2 (by omega) (fun g hg => (oc2.lt g hg).1)
        clear hown2 hgr2 hat2 or2 fr2 hx2 hq2 oc2 lr2 zq2 hblc2 hS2 hT2 hy2 ho2 p20 p21 p22 p23 p24 p25
        have hbw3 : Below w.heap.size w w3 := ((Below.refl _ w).alloc (Nat.le_refl _) _).trans (hbl3.mono (Nat.le_succ _))
        have p30 : w3.cell? ⟨w.heap.size, 0, none⟩ = some (.int .i64 x0) := (hbl3.cell (p := ⟨w.heap.size, 0, none⟩) (by simp)).trans (by simp [go_sem])
        have p31 : w3.cell? ⟨w.heap.size, 1, none⟩ = some (.int .i64 x1) := (hbl3.cell (p := ⟨w.heap.size, 1, none⟩) (by simp)).trans (by simp [go_sem])
        have p32 : w3.cell? ⟨w.heap.size, 2, none⟩ = some (v2) := (hbl3.cell (p := ⟨w.heap.size, 2, none⟩) (by simp)).trans (by simp [go_sem])
        have p33 : w3.cell? ⟨w.heap.size, 3, none⟩ = some (.slice (some ⟨bb, oo, none⟩) n c) := (hbl3.cell (p := ⟨w.heap.size, 3, none⟩) (by simp)).trans (by simp [go_sem])
        have p34 : w3.cell? ⟨bb, oo + j * 5 + 3, none⟩ = some (.slice A3 n3 c3) := below_cell hbw3 d3
        have p35 : w3.cell? ⟨bb, oo + j * 5 + 4, none⟩ = some (.slice A4 n4 c4) := below_cell hbw3 d4
        have hS3 := h.below hbw3 hh
        have hT3 := hE.below hbw3 hh
        have hy3 : hi ≤ w3.heap.size := Nat.le_trans hh hbw3.size
        have hzi3 := hbl3.size
        simp at hzi3
        go_wp2_with fail
        go_region_held3 (fun W => W.cell? ⟨w.heap.size, 0, none⟩ = some (.int .i64 x0) ∧ W.cell? ⟨w.heap.size, 1, none⟩ = some (.int .i64 x1) ∧ W.cell? ⟨w.heap.size, 2, none⟩ = some (v2) ∧ W.cell? ⟨w.heap.size, 3, none⟩ = some (.slice (some ⟨bb, oo, none⟩) n c) ∧ W.cell? ⟨bb, oo + j * 5 + 4, none⟩ = some (.slice A4 n4 c4))
                  (first | exact ⟨p30, p31, p32, p33, p35⟩ | exact ⟨below_cell hq3 p30, below_cell hq3 p31, below_cell hq3 p32, below_cell hq3 p33, below_cell hq3 p35⟩ | exact ⟨(cell_grow oc3 hgr3 (by omega) (below_cell hq3 p30)), (cell_grow oc3 hgr3 (by omega) (below_cell hq3 p31)), (cell_grow oc3 hgr3 (by omega) (below_cell hq3 p32)), (cell_grow oc3 hgr3 (by omega) (below_cell hq3 p33)), (cell_grow oc3 hgr3 (by omega) (below_cell hq3 p35))⟩)
                  (first | (go_at_call 101; ((with_reducible refine (IH.out f (by omega) _ lo hi lo hi x0 x1 v2 _ n c ss A4 n4 c4 _ (j + 1) (hS3.below (show Below w3.heap.size w3 _ by exact belA) hy3) (hT3.below (show Below w3.heap.size w3 _ by exact belA) hy3) (Nat.le_trans hy3 (show Below w3.heap.size w3 _ by exact belA).size) (Nat.le_trans hy3 (show Below w3.heap.size w3 _ by exact belA).size) HA.out hK4.out (by omega) (by omega) hns).mono ?_); rintro e wc3 ⟨F3, Ar3, nr3, cr3, rfl, or3, fr3, hx3⟩; have hq3 : Below w3.heap.size w3 wc3 := (by exact belA); have oc3 := ownsRow_below ho3 hq3; have lr3 := or3.sl.lenEq; have zq3 := hq3.size; have hblc3 := hbl3.trans (hq3.mono (by omega)))) | (refine step_append_src _ (by rfl) _ _ 37 (by rfl) (w.heap.size + 1) 3 inf (.int .i64 0) 1 8 Try.underlying37 hif hz0 hz1 hz2 rfl (by decide) _ _ _ (by rfl) oc3 Ar3 nr3 cr3 _ (by rfl) (src_ints or3.sl) (ints_oneCell _) (by unfold maxLen; simp only [List.length_append, List.length_cons, List.length_nil]; omega) (by simp only [List.length_append, List.length_cons, List.length_nil]; omega) (show w.heap.size + 1 ≤ wc3.heap.size by omega) ?_; intro v4' w4 hown3 hgr3 hat3) | fail)
        have ho4 : w4.ownsRow (w.heap.size + 1) 3 1 v4' (((ys ++ [(j : Int)]) ++ ordF ss (f + 1) (thenOf ss j)) ++ ordF ss (f + 1) (elseOf ss j)).length ((((ys ++ [(j : Int)]) ++ ordF ss (f + 1) (thenOf ss j)) ++ ordF ss (f + 1) (elseOf ss j)).map (Value.int .i64)) := by
          rw [List.length_append, List.map_append, lr3]; exact hown3
        have hbl4 : Below (w.heap.size + 1) (w.alloc (.cells #[.int .i64 x0, .int .i64 x1, v2, .slice (some ⟨bb, oo, none⟩) n c] 97)) w4 := hblc3.grown hgr3 (by omega) (fun g hg => (oc3.lt g hg).1)
        clear hown3 hgr3 hat3 or3 fr3 hx3 hq3 oc3 lr3 zq3 hblc3 hS3 hT3 hy3 ho3 p30 p31 p32 p33 p34 p35
        have hfin : w4.ownsRow (w.heap.size + 1) 3 1 v4' (ordF ss (f + 1 + 1) (bl.take (k + 1))).length ((ordF ss (f + 1 + 1) (bl.take (k + 1))).map (Value.int .i64)) := by
          have e : ordF ss (f + 1 + 1) (bl.take (k + 1)) = ((ys ++ [(j : Int)]) ++ ordF ss (f + 1) (thenOf ss j)) ++ ordF ss (f + 1) (elseOf ss j) := by rw [hs.out, hys.out]; simp
          rw [e]; exact ho4
        go_wp2_with fail
        go_roundw
        case rel => exact ⟨k + 1, by omega, by go_num, hfin, hbl4⟩
        case measure => simp [intOf]; omega
      · rw [List.take_of_length_le (by omega)] at ho1
        go_wp2_with fail
        go_ret
        exact RetOwn.ints (ho1.mono (Nat.le_succ _)) (fun x hx => by have := HM.out x hx; unfold I64; omega) hbw
end Go.Proofs.Ytgoinmdnpaknpaa

/- Whether each statement stands just once: the reference's walk over the blocks. -/
set_option linter.unusedVariables false
set_option linter.unusedSimpArgs false
set_option maxRecDepth 100000
namespace Go.Proofs.Ytgoinmdnpaknpaa
open Go.RowKit
/-- The blocks: the body, then the two of each statement; whose each is. -/
def blkAt (body : List Int) (ss : List Stmt) (i : Nat) : List Int := if i = 0 then body else if i % 2 = 1 then thenOf ss (((i - 1) / 2 : Nat) : Int) else elseOf ss (((i - 1) / 2 : Nat) : Int)
def ownAt (i : Nat) : Int := if i = 0 then -1 else (((i - 1) / 2 : Nat) : Int)
def blkOk (N : Nat) (b : List Int) (o : Int) : Bool := risB b 0 ((N : Int) - 1) && b.all fun n => decide (o < n)
def cnts (N : Nat) (L : List Int) : List Int := (List.range N).map fun (j : Nat) => ((L.count (j : Int) : Nat) : Int)
def catTo (body : List Int) (ss : List Stmt) (k : Nat) : List Int := (List.range k).flatMap (blkAt body ss)
def blocksB (body : List Int) (ss : List Stmt) : Bool := ((List.range (1 + 2 * ss.length)).all fun i => blkOk ss.length (blkAt body ss i) (ownAt i)) && (cnts ss.length (catTo body ss (1 + 2 * ss.length))).all fun x => inB x 1 1
theorem cnts_len (N : Nat) (L : List Int) : (cnts N L).length = N := by simp [cnts]
theorem cnts_nil (N : Nat) : cnts N [] = List.replicate N 0 := by
  apply List.ext_getElem
  · simp [cnts]
  · intro i h1 h2; simp [cnts]
theorem cnts_at {N : Nat} {L : List Int} {j : Nat} (h : j < N) : (cnts N L)[j]'(by rw [cnts_len]; exact h) = ((L.count (j : Int) : Nat) : Int) := by simp [cnts]
theorem cnts_snoc {N : Nat} {L : List Int} {j : Nat} (h : j < N) : (cnts N L).set j (((L.count (j : Int) : Nat) : Int) + 1) = cnts N (L ++ [(j : Int)]) := by
  apply List.ext_getElem
  · simp [cnts]
  · intro i h1 h2
    have hi : i < N := by simpa [cnts] using h2
    rw [cnts_at hi, List.getElem_set, List.count_append]
    by_cases hij : j = i
    · subst hij; simp
    · rw [if_neg hij, cnts_at hi, List.count_singleton]
      have : ((j : Int) == (i : Int)) = false := by simpa using fun h => hij (by omega)
      rw [this]; simp
theorem catTo_succ (body : List Int) (ss : List Stmt) (k : Nat) : catTo body ss (k + 1) = catTo body ss k ++ blkAt body ss k := by
  unfold catTo; rw [List.range_succ, List.flatMap_append]; simp
theorem risB_in {l : List Int} {a b : Int} (h : risB l a b = true) : ∀ x, x ∈ l → a ≤ x ∧ x ≤ b := by
  intro x hx
  obtain ⟨i, hi, rfl⟩ := List.getElem_of_mem hx
  unfold risB at h
  rw [List.all_eq_true] at h
  have := h i (List.mem_range.2 hi)
  rw [risP_of hi rfl, Bool.and_eq_true] at this
  exact inB_iff.1 this.1
theorem catTo_count {body : List Int} {ss : List Stmt} {N : Nat} (x : Int) : ∀ {p : Nat}, ((List.range p).all fun i => blkOk N (blkAt body ss i) (ownAt i)) = true → (catTo body ss p).count x ≤ p
  | 0, _ => by simp [catTo]
  | p + 1, h => by
    rw [List.range_succ, List.all_append, Bool.and_eq_true] at h
    have h1 := catTo_count x h.1
    have h2 := h.2
    simp [blkOk] at h2
    have h3 := risB_count h2.1 x
    rw [catTo_succ, List.count_append]; omega
/-- A row of slices that read as the blocks. -/
def Blks (w : World) (lo hi : Nat) (body : List Int) (ss : List Stmt) (xs : List Value) : Prop := ∀ i, i < xs.length → ∃ A n c, xs[i]? = some (.slice A n c) ∧ Sl intR w lo hi A n c (blkAt body ss i)
theorem apart_or {v u : Value} (h : ∀ g, v.ownBlock = some g → ¬ u.ownBlock = some g) : u.ownBlock = none ∨ u.ownBlock ≠ v.ownBlock := by
  rcases hu : u.ownBlock with _ | g
  · exact Or.inl rfl
  · exact Or.inr fun e => h g e.symm hu
theorem apart_sym {v u : Value} (h : ∀ g, v.ownBlock = some g → ¬ u.ownBlock = some g) : ∀ g, u.ownBlock = some g → ¬ v.ownBlock = some g := fun g h1 h2 => h g h2 h1
/-- One of two rows that lie apart has grown: they lie apart still. -/
theorem apart_grow {v v' u : Value} {N : Nat} (h : ∀ g, v.ownBlock = some g → ¬ u.ownBlock = some g) (hat : v'.ownBlock = v.ownBlock ∨ v'.ownBlock = some N) (hu : ∀ g, u.ownBlock = some g → g < N) : ∀ g, v'.ownBlock = some g → ¬ u.ownBlock = some g := by
  intro g hg hg'
  rcases hat with e | e
  · rw [e] at hg; exact h g hg hg'
  · rw [e] at hg; injection hg with hg; have := hu g hg'; omega
theorem cell_newN {w : World} {g : Nat} (cs : Array Value) (t : TypeId) (hg : w.heap.size = g) : ∀ j v, cs.toList[j]? = some v → (w.alloc (.cells cs t)).cell? ((⟨g, 0, none⟩ : Addr).add j) = some v := by
  subst hg; exact World.news_of_block (fr := (0, 0)) (heap_alloc_new w _)
theorem lit_row {w : World} {g base : Nat} {cs : Array Value} {t : TypeId} {n : Nat} (hg : w.heap[g]? = some (.cells cs t (0, 0))) (hb : base ≤ g) (hn : cs.size = n) (hm : n ≤ maxLen) : w.ownsRow base t 1 (.slice (some ⟨g, 0, none⟩) n n) n cs.toList := by
  refine ⟨by rw [Array.length_toList]; omega, Or.inr ⟨g, n, cs, rfl, hb, hg, Nat.le_refl _, hm, by omega, ?_⟩⟩
  rw [Nat.mul_one, ← hn, List.take_of_length_le (by rw [Array.length_toList]; exact Nat.le_refl _)]
theorem Try.infoInts : (Try.prog.info? 37).map (fun i => (i.zero, i.size, i.bytes)) = some (some (.slice none 0 0), 1, 24) := by kernel_rfl
set_option maxHeartbeats 8000000 in
theorem specL3Blocks (w : World) (lo hi : Nat) (x0 x1 : Int) (Ab : Option Addr) (nb cb : Nat) (body : List Int) (A : Option Addr) (n c : Nat) (ss : List Stmt) (hB : Sl intR w lo hi Ab nb cb body) (h : Sl StmtR w lo hi A n c ss) (hh : hi ≤ w.heap.size) (hn : n ≤ 1048576) :
    Calls Try.prog 100 #[.agg #[.int .i64 x0, .int .i64 x1, .slice Ab nb cb, .slice A n c]] w (RetB (blocksB body ss) w) := by
  have e1 := h.lenEq
  have b1 := h.lenLe
  have B0 := Lib.hid (show blkAt body ss 0 = body from rfl)
  obtain ⟨inf, hif, hz0, hz1, hz2⟩ := info_parts Try.infoInt
  obtain ⟨ins, his, sz0, sz1, sz2⟩ := info_parts Try.infoInts
  go_enter Try.func100, Try.ntmps100
  go_wp2_with (at_make; refine wpList_make_full _ rfl _ _ 37 rfl 0 3 inf (.int .i64 0) 1 Try.underlying37 hif hz0 hz1 _ _ _ _ n rfl rfl rfl rfl (by rw [hz2]; omega) (by unfold maxLen; omega) (Nat.zero_le _) ?_)
  intro w1 hown hg
  have hb1 : Below (w.heap.size + 1) (w.alloc (.cells #[.int .i64 x0, .int .i64 x1, .slice Ab nb cb, .slice A n c] 97)) w1 := (Below.refl _ _).grown hg (by simp) (fun k hk => by cases hk)
  have hbw1 : Below w.heap.size w w1 := ((Below.refl _ w).alloc (Nat.le_refl _) _).trans (hb1.mono (Nat.le_succ _))
  have hM : w.heap.size + 1 < w1.heap.size := (hown.lt (w.heap.size + 1) rfl).2
  have hM0 : w.heap.size < w1.heap.size := by omega
  have hM1 : w.heap.size < w1.heap.size + 1 := by omega
  have q2 : w1.cell? ⟨w.heap.size, 2, none⟩ = some (.slice Ab nb cb) := (hb1.cell (p := ⟨w.heap.size, 2, none⟩) (by simp)).trans (by simp [go_sem])
  have q3 : w1.cell? ⟨w.heap.size, 3, none⟩ = some (.slice A n c) := (hb1.cell (p := ⟨w.heap.size, 3, none⟩) (by simp)).trans (by simp [go_sem])
  rw [toList_madeCells_one, ← List.map_replicate (f := Value.int .i64) (a := 0), ← cnts_nil] at hown
  have hseen := hown
  clear hown hg
  go_wp2_with fail
  go_loopw [4, 5, 23] (fun vb vo i wr => ∃ (k : Nat) (xs : List Value), k ≤ n ∧ i = .int .i64 k ∧ wr.ownsRow w1.heap.size 37 1 vb (1 + 2 * k) xs ∧ Blks w lo hi body ss xs ∧ wr.ownsRow w1.heap.size 3 1 vo (1 + 2 * k) (((List.range (1 + 2 * k)).map ownAt).map (Value.int .i64)) ∧ (∀ g, vb.ownBlock = some g → ¬ vo.ownBlock = some g) ∧ Below w1.heap.size w1 wr) (fun _ _ i _ => n - (intOf i).toNat)
  case atStart =>
    refine ⟨0, [.slice Ab nb cb], Nat.zero_le _, rfl, ?_, ?_, ?_, ?_, by exact belA⟩
    · exact (lit_row (cs := #[.slice Ab nb cb]) (heap_alloc_new _ _) (Nat.le_refl _) rfl (by unfold maxLen; simp)).alloc _
    · intro i hi
      obtain rfl : i = 0 := by simp at hi; omega
      exact ⟨_, _, _, rfl, hB⟩
    · exact lit_row (cs := #[.int .i64 (-1)]) (by rw [show w1.heap.size + 1 = (w1.alloc (.cells #[.slice Ab nb cb] 37)).heap.size by simp]; exact heap_alloc_new _ _) (by omega) rfl (by unfold maxLen; simp)
    · intro g hg hg'
      simp [Value.ownBlock] at hg hg'
      omega
  case round =>
    obtain ⟨k, xs, hk, rfl, hob, hBl, hoo, hne, hb⟩ := hrel
    have hbw : Below w.heap.size w wr := below_then hbw1 (hb.mono (Nat.le_refl _))
    have hzr := hb.size
    by_cases hlt : k < n
    · obtain ⟨bb, oo, y0, y1, A2, n2, c2, s2, A3, n3, c3, s3, A4, n4, c4, s4, rfl, hb1', hb2', hl0, i0, i1, h2, h3, h4, d0, d1, d2, d3, d4⟩ := Stmt_at h hlt
      have D0 := below_cell hbw d0
      have D1 := below_cell hbw d1
      have D2 := below_cell hbw d2
      have D3 := below_cell hbw d3
      have D4 := below_cell hbw d4
      have hT3 : thenOf ss (k : Int) = s3 := by unfold thenOf; rw [show ((k : Int)).toNat = k from rfl, List.getElem?_eq_getElem (by omega), hl0]; rfl
      have hT4 : elseOf ss (k : Int) = s4 := by unfold elseOf; rw [show ((k : Int)).toNat = k from rfl, List.getElem?_eq_getElem (by omega), hl0]; rfl
      have hxl : xs.length = 1 + 2 * k := by have := hob.1; omega
      have hBl2 : Blks w lo hi body ss (xs ++ [.slice A3 n3 c3, .slice A4 n4 c4]) := by
        intro i hi'
        simp only [List.length_append, List.length_cons, List.length_nil] at hi'
        by_cases h1 : i < xs.length
        · obtain ⟨A', n', c', q1, q2⟩ := hBl i h1
          exact ⟨A', n', c', by rw [List.getElem?_append_left h1]; exact q1, q2⟩
        · by_cases h2 : i = 1 + 2 * k
          · refine ⟨A3, n3, c3, by rw [List.getElem?_append_right (by omega), hxl, h2]; simp, ?_⟩
            have : blkAt body ss i = s3 := by rw [← hT3]; unfold blkAt; rw [if_neg (by omega), if_pos (by omega), show (i - 1) / 2 = k by omega]
            rw [this]; exact h3
          · refine ⟨A4, n4, c4, by rw [List.getElem?_append_right (by omega), hxl, show i - (1 + 2 * k) = 1 by omega]; rfl, ?_⟩
            have : blkAt body ss i = s4 := by rw [← hT4]; unfold blkAt; rw [if_neg (by omega), if_neg (by omega), show (i - 1) / 2 = k by omega]
            rw [this]; exact h4
      have hO2 : ((List.range (1 + 2 * k)).map ownAt).map (Value.int .i64) ++ [.int .i64 (k : Int), .int .i64 (k : Int)] = ((List.range (1 + 2 * (k + 1))).map ownAt).map (Value.int .i64) := by
        rw [show 1 + 2 * (k + 1) = (1 + 2 * k) + 1 + 1 by omega, List.range_succ, List.range_succ]
        have o1 : ownAt (1 + 2 * k) = (k : Int) := by unfold ownAt; rw [if_neg (by omega), show (1 + 2 * k - 1) / 2 = k by omega]
        have o2 : ownAt (1 + 2 * k + 1) = (k : Int) := by unfold ownAt; rw [if_neg (by omega), show (1 + 2 * k + 1 - 1) / 2 = k by omega]
        simp [o1, o2]
      have HO2 := Lib.hid hO2
      clear hO2
      have HBl2 := Lib.hid hBl2
      have HNE := Lib.hid hne
      have HBl := Lib.hid hBl
      clear hl0 hT3 hT4 hxl hBl2 hne hBl d0 d1 d2 d3 d4
      go_wp2_with (at_builtin; refine wpList_append_own_at _ rfl _ _ 24 rfl w1.heap.size 37 ins (.slice none 0 0) 1 24 Try.underlying24 his sz0 sz1 sz2 rfl (by decide) _ _ _ rfl ((hob.alloc _).alloc _) ⟨wr.heap.size + 1, 0, none⟩ 2 2 [.slice A3 n3 c3, .slice A4 n4 c4] rfl rfl (cell_newN #[.slice A3 n3 c3, .slice A4 n4 c4] _ (by simp)) (by simp [Value.oneCell']) (by unfold maxLen; omega) (by omega) (by simp; omega) ?_)
      intro vb2 w2 hown1 hgr1 _ hat1
      have hoo1 := ((hoo.alloc (.cells #[.int .i64 y0, .int .i64 y1, .slice A2 n2 c2, .slice A3 n3 c3, .slice A4 n4 c4] 120)).alloc (.cells #[.slice A3 n3 c3, .slice A4 n4 c4] 37)).kept hgr1 (apart_or HNE.out)
      have hne1 := Lib.hid (apart_grow HNE.out hat1 (fun g hg => by have := (hoo.lt g hg).2; omega))
      have hbl2 : Below w1.heap.size w1 w2 := ((hb.alloc hzr _).alloc (by simp; omega) _).grown hgr1 (by simp; omega) (fun g hg => (hob.lt g hg).1)
      have hz2' := hbl2.size
      clear hgr1 hat1 HNE HBl hob
      go_wp2_with (at_builtin; refine wpList_append_own_at _ rfl _ _ 37 rfl w1.heap.size 3 inf (.int .i64 0) 1 8 Try.underlying37 hif hz0 hz1 hz2 rfl (by decide) _ _ _ rfl (hoo1.alloc _) ⟨w2.heap.size, 0, none⟩ 2 2 [.int .i64 (k : Int), .int .i64 (k : Int)] rfl rfl (cell_newN #[.int .i64 (k : Int), .int .i64 (k : Int)] _ (by simp)) (by simp [Value.oneCell']) (by unfold maxLen; omega) (by omega) (by simp; omega) ?_)
      intro vo2 w3 hown2 hgr2 _ hat2
      have hob2 := (hown1.alloc (.cells #[.int .i64 (k : Int), .int .i64 (k : Int)] 3)).kept hgr2 (apart_or (apart_sym hne1.out))
      have hne2 := apart_sym (apart_grow (apart_sym hne1.out) hat2 (fun g hg => by have := (hown1.lt g hg).2; simp; omega))
      have hbl3 : Below w1.heap.size w1 w3 := (hbl2.alloc hz2' _).grown hgr2 (by simp; omega) (fun g hg => (hoo1.lt g hg).1)
      have hoo2 : w3.ownsRow w1.heap.size 3 1 vo2 (1 + 2 * (k + 1)) (((List.range (1 + 2 * (k + 1))).map ownAt).map (Value.int .i64)) := by
        have e := hown2
        rw [← List.map_map] at e
        rw [← HO2.out]; exact e
      clear hgr2 hat2 hown1 hown2 hoo hoo1
      go_wp2_with fail
      go_roundw
      case rel => exact ⟨k + 1, _, by omega, by go_num, hob2, HBl2.out, hoo2, hne2, hbl3⟩
      case measure => simp [intOf]; omega
    · obtain rfl : k = n := by omega
      obtain ⟨wm, rfl⟩ : ∃ wm, wm = wr := ⟨_, rfl⟩
      have hxl : xs.length = 1 + 2 * k := by have := hob.1; omega
      have r3 : wm.cell? ⟨w.heap.size, 3, none⟩ = some (.slice A k c) := below_cell (w := w1) hb q3
      have hse : wm.ownsRow 0 3 1 (.slice (some ⟨w.heap.size + 1, 0, none⟩) k k) k ((cnts k (catTo body ss 0)).map (Value.int .i64)) := ownsRow_below hseen hb
      obtain ⟨gb, capb, hu4, hgb, _⟩ := hob.form (by omega)
      obtain ⟨go, capo, hu5, hgo, _⟩ := hoo.form (by omega)
      subst hu4 hu5
      have hfw : Fr [w.heap.size + 1] w wm := Fr.of_below hbw
      have HR := Lib.hid e1
      clear hseen q2 q3 hb1 hbw1 hne
      go_wp2_with fail
      go_loopw [43] (fun i wq => ∃ p : Nat, p ≤ 1 + 2 * k ∧ i = .int .i64 p ∧ ((List.range p).all fun i => blkOk ss.length (blkAt body ss i) (ownAt i)) = true ∧ wq.ownsRow 0 3 1 (.slice (some ⟨w.heap.size + 1, 0, none⟩) k k) k ((cnts k (catTo body ss p)).map (Value.int .i64)) ∧ Fr [w.heap.size + 1] wm wq) (fun i _ => 1 + 2 * k - (intOf i).toNat)
      case atStart => exact ⟨0, Nat.zero_le _, rfl, rfl, hse, Fr.refl _ _⟩
      case round =>
        obtain ⟨p, hp, rfl, hall0, hsq, hfq⟩ := hrel
        have hall := Lib.hid hall0
        clear hall0
        by_cases hpl : p < 1 + 2 * k
        · obtain ⟨A', n', c', hx1, hS0⟩ := hBl p (by omega)
          have kb := hob.cellAt p (by omega)
          rw [hx1] at kb
          have ko := hoo.cellAt p (by omega)
          rw [show (((List.range (1 + 2 * k)).map ownAt).map (Value.int .i64))[p]? = some (.int .i64 (ownAt p)) by simp [hpl]] at ko
          have kb1 := cell_fr hfq (by simp; omega) kb
          have ko1 := cell_fr hfq (by simp; omega) ko
          have kr1 := cell_fr hfq (by simp) r3
          have hfwq : Fr [w.heap.size + 1] w wr := hfw.trans hfq
          have hS1 := hS0.fr hfwq hh (fun g hg => Or.inr (by simp at hg; omega))
          have hzq := hfwq.size
          have hno := Lib.hid (fun (hq : blkOk ss.length (blkAt body ss p) (ownAt p) = false) => show blocksB body ss = false by unfold blocksB; rw [range_all_false (n := 1 + 2 * ss.length) (k := p) (by rw [e1]; exact hpl) hq]; rfl)
          have hyes := Lib.hid (fun (hq : blkOk ss.length (blkAt body ss p) (ownAt p) = true) => range_all_succ (p := fun i => blkOk ss.length (blkAt body ss i) (ownAt i)) hall.out hq)
          have hcat := Lib.hid (catTo_succ body ss p)
          generalize hbl0 : blkAt body ss p = bl at hS0 hS1
          have hbl := Lib.hid hbl0
          have eb := hS0.lenEq
          have bb := hS0.lenLe
          generalize ho0 : ownAt p = o at ko ko1
          have hoE := Lib.hid ho0
          clear hx1 kb ko hbl0 ho0
          by_cases hr : risB bl 0 ((k : Int) - 1) = true
          · have hin := Lib.hid (risB_in hr)
            go_wp2_with fail
            refine (specL1Rising _ lo hi n' c' A' bl 0 ((k : Int) - 1) hS1 (by omega)).mono ?_
            rintro e w2 ⟨rfl, hb2⟩
            have hf2 : Fr [w.heap.size + 1] wm w2 := hfq.trans (Fr.of_below hb2)
            have hs2 := ownsRow_below hsq hb2
            have ko2 := below_cell hb2 ko1
            clear hsq
            go_wp2_with fail
            go_loopw [57] (fun i wq => ∃ q : Nat, q ≤ n' ∧ i = .int .i64 q ∧ ((bl.take q).all fun x => decide (o < x)) = true ∧ wq.ownsRow 0 3 1 (.slice (some ⟨w.heap.size + 1, 0, none⟩) k k) k ((cnts k (catTo body ss p ++ bl.take q)).map (Value.int .i64)) ∧ Fr [w.heap.size + 1] w2 wq) (fun i _ => n' - (intOf i).toNat)
            case atStart => exact ⟨0, Nat.zero_le _, rfl, rfl, by simpa using hs2, Fr.refl _ _⟩
            case round =>
              obtain ⟨q, hq, rfl, hal0, hsq, hfi⟩ := hrel
              have hal := Lib.hid hal0
              clear hal0
              have hfm := hf2.trans hfi
              by_cases hql : q < n'
              · have hS3 := hS0.fr (hfw.trans hfm) hh (fun g hg => Or.inr (by simp at hg; omega))
                obtain ⟨b', o', rfl, hlo', hhi', hc3, _⟩ := hS3.int_at hql
                have hxin := hin.out (bl[q]'(by omega)) (List.getElem_mem _)
                have htk := List.take_succ_eq_append_getElem (l := bl) (i := q) (by omega)
                generalize hx0 : bl[q]'(by omega) = x at hc3 hxin htk
                obtain ⟨j, rfl⟩ := Int.eq_ofNat_of_zero_le hxin.1
                have hjk : j < k := by omega
                have ko3 := cell_fr hfi (by simp; omega) ko2
                have hcs := hsq.cellAt j (by omega)
                rw [List.getElem?_map, List.getElem?_eq_getElem (by rw [cnts_len]; exact hjk), cnts_at hjk, Option.map_some] at hcs
                have hlc : (catTo body ss p ++ bl.take q).count (j : Int) ≤ 1 + 2 * k + 1 := by
                  have c1 := catTo_count (j : Int) hall.out
                  have c2 := risB_count hr (j : Int)
                  have c3 := (List.take_sublist q bl).count_le (j : Int)
                  rw [List.count_append]; omega
                by_cases hox : o < (j : Int)
                · have hst := (hsq.stored j (.int .i64 ((((catTo body ss p ++ bl.take q).count (j : Int) : Nat) : Int) + 1))).1
                  rw [← List.map_set, cnts_snoc hjk, List.append_assoc, ← htk] at hst
                  have hal2 := Lib.hid (all_take_succ (p := fun x => decide (o < x)) hal.out (by omega) (by rw [hx0]; simpa using hox))
                  have hfz := hsq.frozenAt j
                  have hfn : Fr [w.heap.size + 1] w2 (wr.setCell ⟨w.heap.size + 1, j, none⟩ (.int .i64 ((((catTo body ss p ++ bl.take q).count (j : Int) : Nat) : Int) + 1))) := hfi.setCell (by simp) _
                  generalize hcq : (catTo body ss p ++ bl.take q).count (j : Int) = cq at hcs hst hfn hlc
                  have hcqH := Lib.hid hcq
                  clear htk hx0 hcq
                  have hd : decide ((j : Int) ≤ o) = false := by simp; omega
                  go_wp2_with fail
                  go_roundw
                  case rel => exact ⟨q + 1, by omega, by go_num, hal2.out, hst, hfn⟩
                  case measure => simp [intOf]; omega
                · have hno2 := Lib.hid (hno.out (by rw [hbl.out, hoE.out]; unfold blkOk; rw [all_false (l := bl) (k := q) (by omega) (by rw [hx0]; simpa using hox)]; simp))
                  have hd : decide ((j : Int) ≤ o) = true := by simp; omega
                  clear htk hx0 hlc
                  go_wp2_with fail
                  go_ret
                  exact RetB.mk hno2.out.symm (below_fr hbw hfm (by simp))
              · have hqn : q = n' := by omega
                have htl : bl.take q = bl := List.take_of_length_le (by omega)
                rw [htl, ← hbl.out, ← catTo_succ] at hsq
                have hal1 := hal.out
                rw [htl] at hal1
                have hy := Lib.hid (hyes.out (by rw [hbl.out, hoE.out]; unfold blkOk; rw [e1, hr, hal1]; rfl))
                clear htl hal1 hqn
                go_wp2_with fail
                go_roundw
                case rel => exact ⟨p + 1, by omega, by go_num, hy.out, hsq, hfm⟩
                case measure => simp [intOf]; omega
          · have hr : risB bl 0 ((k : Int) - 1) = false := by simpa using hr
            have hno2 := Lib.hid (hno.out (by rw [hbl.out, hoE.out]; unfold blkOk; rw [e1, hr]; rfl))
            go_wp2_with fail
            refine (specL1Rising _ lo hi n' c' A' bl 0 ((k : Int) - 1) hS1 (by omega)).mono ?_
            rintro e w2 ⟨rfl, hb2⟩
            go_wp2_with fail
            go_ret
            exact RetB.mk hno2.out.symm (below_then (below_fr hbw hfq (by simp)) hb2)
        · obtain rfl : p = 1 + 2 * k := by omega
          have hfin := Lib.hid (show blocksB body ss = (cnts k (catTo body ss (1 + 2 * k))).all fun x => inB x 1 1 by unfold blocksB; have := hall.out; rw [e1] at this ⊢; rw [this]; rfl)
          have hi64 : ∀ x, x ∈ cnts k (catTo body ss (1 + 2 * k)) → I64 x := by
            intro x hx
            obtain ⟨j, hj, rfl⟩ := List.mem_map.1 hx
            have := catTo_count (j : Int) hall.out
            unfold I64; omega
          have hS := (own_ints (l := cnts k (catTo body ss (1 + 2 * k))) (by rw [cnts_len]; exact hsq) hi64).sl
          clear hi64
          go_wp2_with fail
          refine (specL1All _ 0 _ k k _ _ 1 1 hS (Nat.le_refl _)).mono ?_
          rintro e w2 ⟨rfl, hb2⟩
          go_wp2_with fail
          go_ret
          exact RetB.mk hfin.out.symm (below_then (below_fr hbw hfq (by simp)) hb2)
end Go.Proofs.Ytgoinmdnpaknpaa

/- A function's blocks, said in two ways: each statement stands just once; or as many as there are statements, and in order. Plain law. -/
set_option linter.unusedVariables false
set_option linter.unusedSimpArgs false
namespace Go.Proofs.Ytgoinmdnpaknpaa
open Go.RowKit

def ordA (ss : List Stmt) (b : List Int) : List Int := ordF ss (ss.length + 1) b
def idB (l : List Int) : Bool := (List.range l.length).all fun k => l.getD k 0 == (k : Int)
theorem ordF_A {ss : List Stmt} (ha : okAll ss) {f lo : Nat} {b : List Int} (hb : okB ss lo b) (hf : ss.length ≤ lo + f) : ordF ss f b = ordA ss b :=
  ordF_fuel ha f (ss.length + 1) lo b hb hf (by omega)
theorem ordF_sub (ss : List Stmt) (f : Nat) : ∀ (b : List Int), b.Sublist (ordF ss (f + 1) b)
  | [] => by simp
  | n :: b => by
    rw [ordF_cons]
    refine List.Sublist.cons_cons n ?_
    refine (ordF_sub ss f b).trans ?_
    exact (List.sublist_append_right _ _).trans (List.sublist_append_right _ _)
theorem ordA_sub (ss : List Stmt) (b : List Int) : b.Sublist (ordA ss b) := ordF_sub ss _ b
/-- The blocks of a statement that stands in the order stand in it, in order. -/
theorem ordF_in {ss : List Stmt} (ha : okAll ss) : ∀ (f lo : Nat) (b : List Int), okB ss lo b → ss.length ≤ lo + f → ∀ i, i ∈ ordF ss f b → (ordA ss (thenOf ss i)).Sublist (ordF ss f b) ∧ (ordA ss (elseOf ss i)).Sublist (ordF ss f b) := by
  intro f
  induction f with
  | zero => intro lo b _ _ i hi; simp [ordF] at hi
  | succ f ih =>
    intro lo b hb hf
    induction b with
    | nil => intro i hi; rw [ordF_nil] at hi; simp at hi
    | cons n b ihb =>
      have hn := hb n (List.mem_cons_self ..)
      have hn2 : n = ((n.toNat : Nat) : Int) := by omega
      obtain ⟨a1, a2⟩ := ha n.toNat (by omega)
      rw [← hn2] at a1 a2
      have E1 := ordF_A ha (f := f) a1 (by omega)
      have E2 := ordF_A ha (f := f) a2 (by omega)
      intro i hi
      rw [ordF_cons] at hi ⊢
      have s1 : (ordF ss f (thenOf ss n)).Sublist (n :: (ordF ss f (thenOf ss n) ++ (ordF ss f (elseOf ss n) ++ ordF ss (f + 1) b))) := (List.sublist_append_left _ _).trans (List.sublist_cons_self _ _)
      have s2 : (ordF ss f (elseOf ss n)).Sublist (n :: (ordF ss f (thenOf ss n) ++ (ordF ss f (elseOf ss n) ++ ordF ss (f + 1) b))) := ((List.sublist_append_left _ _).trans (List.sublist_append_right _ _)).trans (List.sublist_cons_self _ _)
      have s3 : (ordF ss (f + 1) b).Sublist (n :: (ordF ss f (thenOf ss n) ++ (ordF ss f (elseOf ss n) ++ ordF ss (f + 1) b))) := ((List.sublist_append_right _ _).trans (List.sublist_append_right _ _)).trans (List.sublist_cons_self _ _)
      rcases List.mem_cons.1 hi with rfl | hi
      · rw [← E1, ← E2]; exact ⟨s1, s2⟩
      rcases List.mem_append.1 hi with hi | hi
      · have := ih _ _ a1 (by omega) i hi; exact ⟨this.1.trans s1, this.2.trans s1⟩
      rcases List.mem_append.1 hi with hi | hi
      · have := ih _ _ a2 (by omega) i hi; exact ⟨this.1.trans s2, this.2.trans s2⟩
      · have := ihb (fun m hm => hb m (List.mem_cons_of_mem _ hm)) i hi; exact ⟨this.1.trans s3, this.2.trans s3⟩
/-- What stands in the order stands in a block. -/
theorem ordF_blk {ss : List Stmt} (ha : okAll ss) : ∀ (f lo : Nat) (b : List Int), okB ss lo b → ∀ i, i ∈ ordF ss f b → i ∈ b ∨ ∃ j, j < ss.length ∧ (i ∈ thenOf ss (j : Int) ∨ i ∈ elseOf ss (j : Int)) := by
  intro f
  induction f with
  | zero => intro lo b _ i hi; simp [ordF] at hi
  | succ f ih =>
    intro lo b hb
    induction b with
    | nil => intro i hi; rw [ordF_nil] at hi; simp at hi
    | cons n b ihb =>
      have hn := hb n (List.mem_cons_self ..)
      have hn2 : n = ((n.toNat : Nat) : Int) := by omega
      obtain ⟨a1, a2⟩ := ha n.toNat (by omega)
      rw [← hn2] at a1 a2
      intro i hi
      rw [ordF_cons] at hi
      rcases List.mem_cons.1 hi with rfl | hi
      · exact Or.inl (List.mem_cons_self ..)
      rcases List.mem_append.1 hi with hi | hi
      · rcases ih _ _ a1 i hi with h | h
        · exact Or.inr ⟨n.toNat, by omega, Or.inl (by rw [← hn2]; exact h)⟩
        · exact Or.inr h
      rcases List.mem_append.1 hi with hi | hi
      · rcases ih _ _ a2 i hi with h | h
        · exact Or.inr ⟨n.toNat, by omega, Or.inr (by rw [← hn2]; exact h)⟩
        · exact Or.inr h
      · rcases ihb (fun m hm => hb m (List.mem_cons_of_mem _ hm)) i hi with h | h
        · exact Or.inl (List.mem_cons_of_mem _ h)
        · exact Or.inr h
/-! ### counts -/
def sumTo (N : Nat) (f : Nat → Nat) : Nat := ((List.range N).map f).sum
theorem sumTo_succ (N : Nat) (f : Nat → Nat) : sumTo (N + 1) f = sumTo N f + f N := by simp [sumTo, List.range_succ]
theorem sumTo_add (N : Nat) (f g : Nat → Nat) : sumTo N (fun j => f j + g j) = sumTo N f + sumTo N g := by
  induction N with
  | zero => rfl
  | succ N ih => rw [sumTo_succ, sumTo_succ, sumTo_succ, ih]; omega
theorem sumTo_one (N x : Nat) : sumTo N (fun j => if x = j then 1 else 0) = if x < N then 1 else 0 := by
  induction N with
  | zero => rfl
  | succ N ih =>
    rw [sumTo_succ, ih]
    by_cases h1 : x < N
    · rw [if_pos h1, if_neg (by omega), if_pos (by omega)]
    · by_cases h2 : x = N
      · rw [if_neg h1, if_pos h2, if_pos (by omega)]
      · rw [if_neg h1, if_neg h2, if_neg (by omega)]
theorem sumTo_zero (N : Nat) : sumTo N (fun _ => 0) = 0 := by
  induction N with
  | zero => rfl
  | succ N ih => rw [sumTo_succ, ih]
theorem sumTo_count (N : Nat) : ∀ (L : List Int), (∀ x, x ∈ L → 0 ≤ x ∧ x < (N : Int)) → sumTo N (fun j => L.count (j : Int)) = L.length
  | [], _ => by
    have : sumTo N (fun j => ([] : List Int).count (j : Int)) = sumTo N (fun _ => 0) := rfl
    rw [this, sumTo_zero]; rfl
  | x :: L, h => by
    have hx := h x (List.mem_cons_self ..)
    have e : (fun j : Nat => (x :: L).count (j : Int)) = fun j : Nat => L.count (j : Int) + if x.toNat = j then 1 else 0 := by
      funext j
      rw [List.count_cons]
      congr 1
      by_cases hj : x.toNat = j
      · rw [if_pos hj, if_pos (by simp; omega)]
      · rw [if_neg hj, if_neg (by simp; omega)]
    rw [e, sumTo_add, sumTo_count N L (fun y hy => h y (List.mem_cons_of_mem _ hy)), sumTo_one, if_pos (by omega), List.length_cons]
theorem sumTo_ge {N : Nat} {f : Nat → Nat} (h : ∀ j, j < N → 1 ≤ f j) : N ≤ sumTo N f := by
  induction N with
  | zero => omega
  | succ N ih => rw [sumTo_succ]; have := ih (fun j hj => h j (by omega)); have := h N (by omega); omega
theorem sumTo_all {N : Nat} {f : Nat → Nat} (h : ∀ j, j < N → 1 ≤ f j) (hs : sumTo N f = N) : ∀ j, j < N → f j = 1 := by
  induction N with
  | zero => intro j hj; omega
  | succ N ih =>
    rw [sumTo_succ] at hs
    have h1 := sumTo_ge (N := N) (f := f) (fun j hj => h j (by omega))
    have h2 := h N (by omega)
    intro j hj
    by_cases e : j = N
    · subst e; omega
    · exact ih (fun j hj => h j (by omega)) (by omega) j (by omega)
theorem sumTo_ones {N : Nat} {f : Nat → Nat} (h : ∀ j, j < N → f j = 1) : sumTo N f = N := by
  induction N with
  | zero => rfl
  | succ N ih => rw [sumTo_succ, ih (fun j hj => h j (by omega)), h N (by omega)]
theorem catTo_len (body : List Int) (ss : List Stmt) : ∀ k, k ≤ ss.length → (catTo body ss (1 + 2 * k)).length = body.length + ((ss.take k).map fun s => s.2.2.2.1.length + s.2.2.2.2.length).sum
  | 0, _ => by simp [catTo, blkAt]
  | k + 1, h => by
    have ih := catTo_len body ss k (by omega)
    rw [show 1 + 2 * (k + 1) = (1 + 2 * k) + 1 + 1 by omega, catTo_succ, catTo_succ, List.length_append, List.length_append, ih, sum_take_succ (f := fun s : Stmt => s.2.2.2.1.length + s.2.2.2.2.length) (by omega)]
    have o1 : blkAt body ss (1 + 2 * k) = ss[k].2.2.2.1 := by
      unfold blkAt thenOf; rw [if_neg (by omega), if_pos (by omega), show (1 + 2 * k - 1) / 2 = k by omega]
      simp only [Int.toNat_natCast, List.getElem?_eq_getElem (by omega : k < ss.length), Option.map_some, Option.getD_some]
    have o2 : blkAt body ss (1 + 2 * k + 1) = ss[k].2.2.2.2 := by
      unfold blkAt elseOf; rw [if_neg (by omega), if_neg (by omega), show (1 + 2 * k + 1 - 1) / 2 = k by omega]
      simp only [Int.toNat_natCast, List.getElem?_eq_getElem (by omega : k < ss.length), Option.map_some, Option.getD_some]
    rw [o1, o2]; omega
theorem catTo_all (body : List Int) (ss : List Stmt) : (catTo body ss (1 + 2 * ss.length)).length = body.length + cntB ss 0 := by
  rw [catTo_len body ss _ (Nat.le_refl _), List.take_length]; simp [cntB]
theorem mem_catTo {body : List Int} {ss : List Stmt} {k : Nat} {x : Int} : x ∈ catTo body ss k ↔ ∃ i, i < k ∧ x ∈ blkAt body ss i := by
  unfold catTo; simp [List.mem_flatMap]
theorem blkAt_then (body : List Int) (ss : List Stmt) (j : Nat) : blkAt body ss (2 * j + 1) = thenOf ss (j : Int) ∧ ownAt (2 * j + 1) = (j : Int) := by
  unfold blkAt ownAt; rw [if_neg (by omega), if_pos (by omega), if_neg (by omega), show (2 * j + 1 - 1) / 2 = j by omega]; exact ⟨rfl, rfl⟩
theorem blkAt_else (body : List Int) (ss : List Stmt) (j : Nat) : blkAt body ss (2 * j + 2) = elseOf ss (j : Int) ∧ ownAt (2 * j + 2) = (j : Int) := by
  unfold blkAt ownAt; rw [if_neg (by omega), if_neg (by omega), if_neg (by omega), show (2 * j + 2 - 1) / 2 = j by omega]; exact ⟨rfl, rfl⟩
theorem blkOk_iff {N : Nat} {b : List Int} {o : Int} (ho : -1 ≤ o) : blkOk N b o = true ↔ (∀ x, x ∈ b → o < x ∧ x < (N : Int)) ∧ b.Pairwise (· < ·) := by
  unfold blkOk
  rw [Bool.and_eq_true, risB_pw, List.all_eq_true]
  constructor
  · rintro ⟨⟨h1, h2⟩, h3⟩
    exact ⟨fun x hx => ⟨by simpa using h3 x hx, by have := h1 x hx; omega⟩, h2⟩
  · rintro ⟨h1, h2⟩
    exact ⟨⟨fun x hx => by have := h1 x hx; omega, h2⟩, fun x hx => by simpa using (h1 x hx).1⟩
theorem cnts_ones {N : Nat} {L : List Int} : ((cnts N L).all fun x => inB x 1 1) = true ↔ ∀ j, j < N → L.count (j : Int) = 1 := by
  rw [List.all_eq_true]
  constructor
  · intro h j hj
    have := inB_iff.1 (h _ (List.getElem_mem (by rw [cnts_len]; exact hj)))
    rw [cnts_at hj] at this; omega
  · intro h x hx
    obtain ⟨j, hj, rfl⟩ := List.mem_map.1 hx
    rw [h j (List.mem_range.1 hj)]; rfl
/-- What the reference asks of the blocks, in words. -/
theorem blocksB_iff {body : List Int} {ss : List Stmt} : blocksB body ss = true ↔ (okB ss 0 body ∧ body.Pairwise (· < ·)) ∧ (okAll ss ∧ ∀ j, j < ss.length → (thenOf ss (j : Int)).Pairwise (· < ·) ∧ (elseOf ss (j : Int)).Pairwise (· < ·)) ∧ ∀ j, j < ss.length → (catTo body ss (1 + 2 * ss.length)).count (j : Int) = 1 := by
  unfold blocksB
  rw [Bool.and_eq_true, cnts_ones, List.all_eq_true, ← and_assoc]
  refine and_congr_left fun _ => ?_
  constructor
  · intro h
    have h0 := (blkOk_iff (by simp [ownAt])).1 (h 0 (List.mem_range.2 (by omega)))
    refine ⟨⟨fun x hx => by have := h0.1 x hx; simp [ownAt] at this; simp; omega, h0.2⟩, fun j hj => ?_, fun j hj => ?_⟩
    · have a1 := (blkOk_iff (by rw [(blkAt_then body ss j).2]; omega)).1 (h (2 * j + 1) (List.mem_range.2 (by omega)))
      have a2 := (blkOk_iff (by rw [(blkAt_else body ss j).2]; omega)).1 (h (2 * j + 2) (List.mem_range.2 (by omega)))
      rw [(blkAt_then body ss j).1, (blkAt_then body ss j).2] at a1
      rw [(blkAt_else body ss j).1, (blkAt_else body ss j).2] at a2
      exact ⟨fun x hx => by have := a1.1 x hx; simp; omega, fun x hx => by have := a2.1 x hx; simp; omega⟩
    · have a1 := (blkOk_iff (by rw [(blkAt_then body ss j).2]; omega)).1 (h (2 * j + 1) (List.mem_range.2 (by omega)))
      have a2 := (blkOk_iff (by rw [(blkAt_else body ss j).2]; omega)).1 (h (2 * j + 2) (List.mem_range.2 (by omega)))
      rw [(blkAt_then body ss j).1] at a1
      rw [(blkAt_else body ss j).1] at a2
      exact ⟨a1.2, a2.2⟩
  · rintro ⟨⟨h1, h2⟩, h3, h4⟩ i hi
    have hi := List.mem_range.1 hi
    rcases Nat.eq_zero_or_pos i with rfl | hp
    · exact (blkOk_iff (by simp [ownAt])).2 ⟨fun x hx => by have := h1 x hx; simp [ownAt]; simp at this; omega, h2⟩
    · by_cases hm : i % 2 = 1
      · obtain ⟨j, rfl⟩ : ∃ j, i = 2 * j + 1 := ⟨i / 2, by omega⟩
        rw [(blkAt_then body ss j).1, (blkAt_then body ss j).2]
        exact (blkOk_iff (by omega)).2 ⟨fun x hx => by have := (h3 j (by omega)).1 x hx; simp at this; omega, (h4 j (by omega)).1⟩
      · obtain ⟨j, rfl⟩ : ∃ j, i = 2 * j + 2 := ⟨i / 2 - 1, by omega⟩
        rw [(blkAt_else body ss j).1, (blkAt_else body ss j).2]
        exact (blkOk_iff (by omega)).2 ⟨fun x hx => by have := (h3 j (by omega)).2 x hx; simp at this; omega, (h4 j (by omega)).2⟩
theorem idB_iff {l : List Int} : idB l = true ↔ ∀ k (h : k < l.length), l[k] = (k : Int) := by
  unfold idB
  rw [List.all_eq_true]
  constructor
  · intro h k hk
    have := h k (List.mem_range.2 hk)
    simpa [List.getD, hk] using this
  · intro h k hk
    have hk := List.mem_range.1 hk
    simp [List.getD, hk, h k hk]
theorem idB_pw {l : List Int} (h : idB l = true) : l.Pairwise (· < ·) := by
  rw [idB_iff] at h
  rw [List.pairwise_iff_getElem]
  intro i j hi hj hij
  rw [h i hi, h j hj]; omega
/-- The two ways to say it. -/
theorem shape_same {body : List Int} {ss : List Stmt} : (body.length + cntB ss 0 = ss.length ∧ okB ss 0 body ∧ okAll ss ∧ idB (ordA ss body) = true ∧ (ordA ss body).length = ss.length) ↔ (blocksB body ss = true ∧ idB (ordA ss body) = true) := by
  rw [blocksB_iff]
  constructor
  · rintro ⟨h1, h2, h3, h4, h5⟩
    have hmem : ∀ j, j < ss.length → ((j : Int)) ∈ ordA ss body := fun j hj => by
      have := idB_iff.1 h4 j (by omega)
      rw [← this]; exact List.getElem_mem _
    have hpw := idB_pw h4
    refine ⟨⟨⟨h2, hpw.sublist (ordA_sub ss body)⟩, ⟨h3, fun j hj => ?_⟩, ?_⟩, h4⟩
    · have := ordF_in h3 (ss.length + 1) 0 body h2 (by omega) (j : Int) (hmem j hj)
      exact ⟨hpw.sublist ((ordA_sub ss _).trans this.1), hpw.sublist ((ordA_sub ss _).trans this.2)⟩
    · have hin : ∀ x, x ∈ catTo body ss (1 + 2 * ss.length) → 0 ≤ x ∧ x < (ss.length : Int) := by
        intro x hx
        obtain ⟨i, hi, hx⟩ := mem_catTo.1 hx
        rcases Nat.eq_zero_or_pos i with rfl | hp
        · have := h2 x hx; simp at this; omega
        · by_cases hm : i % 2 = 1
          · obtain ⟨j, rfl⟩ : ∃ j, i = 2 * j + 1 := ⟨i / 2, by omega⟩
            rw [(blkAt_then body ss j).1] at hx
            have := (h3 j (by omega)).1 x hx; omega
          · obtain ⟨j, rfl⟩ : ∃ j, i = 2 * j + 2 := ⟨i / 2 - 1, by omega⟩
            rw [(blkAt_else body ss j).1] at hx
            have := (h3 j (by omega)).2 x hx; omega
      have hsum := sumTo_count ss.length _ hin
      rw [catTo_all, h1] at hsum
      refine sumTo_all (fun j hj => ?_) hsum
      rw [Nat.succ_le_iff, List.count_pos_iff]
      rcases ordF_blk h3 (ss.length + 1) 0 body h2 (j : Int) (hmem j hj) with h | ⟨m, hm, h | h⟩
      · exact mem_catTo.2 ⟨0, by omega, h⟩
      · exact mem_catTo.2 ⟨2 * m + 1, by omega, by rw [(blkAt_then body ss m).1]; exact h⟩
      · exact mem_catTo.2 ⟨2 * m + 2, by omega, by rw [(blkAt_else body ss m).1]; exact h⟩
  · rintro ⟨⟨⟨h1, h2⟩, ⟨h3, h4⟩, h5⟩, h6⟩
    have hin : ∀ x, x ∈ catTo body ss (1 + 2 * ss.length) → 0 ≤ x ∧ x < (ss.length : Int) := by
      intro x hx
      obtain ⟨i, hi, hx⟩ := mem_catTo.1 hx
      rcases Nat.eq_zero_or_pos i with rfl | hp
      · have := h1 x hx; simp at this; omega
      · by_cases hm : i % 2 = 1
        · obtain ⟨j, rfl⟩ : ∃ j, i = 2 * j + 1 := ⟨i / 2, by omega⟩
          rw [(blkAt_then body ss j).1] at hx
          have := (h3 j (by omega)).1 x hx; omega
        · obtain ⟨j, rfl⟩ : ∃ j, i = 2 * j + 2 := ⟨i / 2 - 1, by omega⟩
          rw [(blkAt_else body ss j).1] at hx
          have := (h3 j (by omega)).2 x hx; omega
    have hsum := sumTo_count ss.length _ hin
    rw [sumTo_ones h5, catTo_all] at hsum
    have hall : ∀ j, j < ss.length → ((j : Int)) ∈ ordA ss body := by
      intro j
      induction j using Nat.strongRecOn with
      | ind j ih =>
        intro hj
        have hc : ((j : Int)) ∈ catTo body ss (1 + 2 * ss.length) := List.count_pos_iff.1 (by rw [h5 j hj]; omega)
        obtain ⟨i, hi, hx⟩ := mem_catTo.1 hc
        rcases Nat.eq_zero_or_pos i with rfl | hp
        · exact (ordA_sub ss body).subset hx
        · by_cases hm : i % 2 = 1
          · obtain ⟨m, rfl⟩ : ∃ m, i = 2 * m + 1 := ⟨i / 2, by omega⟩
            rw [(blkAt_then body ss m).1] at hx
            have := (h3 m (by omega)).1 _ hx
            exact ((ordA_sub ss _).trans (ordF_in h3 (ss.length + 1) 0 body h1 (by omega) (m : Int) (ih m (by omega) (by omega))).1).subset hx
          · obtain ⟨m, rfl⟩ : ∃ m, i = 2 * m + 2 := ⟨i / 2 - 1, by omega⟩
            rw [(blkAt_else body ss m).1] at hx
            have := (h3 m (by omega)).2 _ hx
            exact ((ordA_sub ss _).trans (ordF_in h3 (ss.length + 1) 0 body h1 (by omega) (m : Int) (ih m (by omega) (by omega))).2).subset hx
    refine ⟨hsum.symm, h1, h3, h6, ?_⟩
    have hid := idB_iff.1 h6
    have hmm := ordF_mem h3 (ss.length + 1) 0 body h1
    apply Nat.le_antisymm
    · rcases Nat.eq_zero_or_pos (ordA ss body).length with h0 | h0
      · omega
      · have := hmm ((ordA ss body)[(ordA ss body).length - 1]'(by omega)) (List.getElem_mem _)
        rw [hid _ (by omega)] at this; omega
    · rcases Nat.eq_zero_or_pos ss.length with h0 | h0
      · omega
      · obtain ⟨i, hi, he⟩ := List.getElem_of_mem (hall (ss.length - 1) (by omega))
        rw [hid i hi] at he; omega
theorem blocksB_len {body : List Int} {ss : List Stmt} (h : blocksB body ss = true) (h16 : ss.length ≤ 16) : okB ss 0 body ∧ okAll ss ∧ body.length + cntB ss 0 = ss.length := by
  have hb := blocksB_iff.1 h
  obtain ⟨⟨h1, h2⟩, ⟨h3, h4⟩, h5⟩ := hb
  refine ⟨h1, h3, ?_⟩
  have hin : ∀ x, x ∈ catTo body ss (1 + 2 * ss.length) → 0 ≤ x ∧ x < (ss.length : Int) := by
    intro x hx
    obtain ⟨i, hi, hx⟩ := mem_catTo.1 hx
    rcases Nat.eq_zero_or_pos i with rfl | hp
    · have := h1 x hx; simp at this; omega
    · by_cases hm : i % 2 = 1
      · obtain ⟨j, rfl⟩ : ∃ j, i = 2 * j + 1 := ⟨i / 2, by omega⟩
        rw [(blkAt_then body ss j).1] at hx
        have := (h3 j (by omega)).1 x hx; omega
      · obtain ⟨j, rfl⟩ : ∃ j, i = 2 * j + 2 := ⟨i / 2 - 1, by omega⟩
        rw [(blkAt_else body ss j).1] at hx
        have := (h3 j (by omega)).2 x hx; omega
  have hsum := sumTo_count ss.length _ hin
  rw [sumTo_ones h5, catTo_all] at hsum
  exact hsum.symm
theorem ord_len {ss : List Stmt} {b : List Int} {lo : Nat} (ha : okAll ss) (hb : okB ss lo b) (hl : b.length + cntB ss lo ≤ 16) (f : Nat) : (ordF ss f b).length ≤ 65536 := by
  have := ordF_len ha f lo b hb
  have h2 : (2 : Nat) ^ (b.length + cntB ss lo) ≤ 2 ^ 16 := Nat.pow_le_pow_right (by omega) hl
  omega
end Go.Proofs.Ytgoinmdnpaknpaa
