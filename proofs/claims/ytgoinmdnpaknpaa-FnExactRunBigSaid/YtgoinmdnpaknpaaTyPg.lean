/- Several texts in one: TyTok, AnyTok, TyStmt, AnyStmt, TyFunc, TyProg. -/
import Derived.Test.YtgoinmdnpaknpaaKit1
import Derived.Deep.RegionHeld3

/- Tok: how it lies in cells; the laws' own helpers over it. Printed by typegen.py. Walks. -/
set_option linter.unusedVariables false
set_option linter.unusedSimpArgs false
set_option maxRecDepth 100000
namespace Go.Proofs.Ytgoinmdnpaknpaa
open Go.RowKit

abbrev Tok := Int × Int
def TokR : Rp Tok := pairR intR (intR)
theorem Tok_rel {w : World} {lo hi : Nat} {cs : List Value} {x : Tok} (h : TokR.rel w lo hi cs x) : ∃ x0 x1, cs = ([.int .i64 x0, .int .i64 x1] : List Value) ∧ x = (x0, x1) ∧ I64 x0 ∧ I64 x1 := by
  obtain ⟨_, _, rfl, ⟨rfl, i0⟩, ⟨rfl, i1⟩⟩ := h
  exact ⟨x.1, x.2, rfl, rfl, i0, i1⟩
theorem Tok_own (w : World) (x0 : Int) (x1 : Int) (i0 : I64 x0) (i1 : I64 x1) : TokR.own w [] [.int .i64 x0, .int .i64 x1] (x0, x1) := ⟨[_], [_], [], [], rfl, rfl, ⟨rfl, rfl, i0⟩, ⟨rfl, rfl, i1⟩, by simp⟩
theorem Tok_at {w : World} {lo hi : Nat} {A : Option Addr} {n c k : Nat} {l : List Tok} (h : Sl TokR w lo hi A n c l) (hk : k < n) :
    ∃ b off x0 x1, A = some ⟨b, off, none⟩ ∧ lo ≤ b ∧ b < hi ∧ l[k]'(by have := h.1; omega) = (x0, x1) ∧ I64 x0 ∧ I64 x1 ∧ w.cell? ⟨b, off + k * 2, none⟩ = some (.int .i64 x0) ∧ w.cell? ⟨b, off + k * 2 + 1, none⟩ = some (.int .i64 x1) := by
  obtain ⟨b, off, cs, rfl, hb1, hb2, hr, hc⟩ := h.at_ hk
  obtain ⟨x0, x1, rfl, hx, i0, i1⟩ := Tok_rel hr
  exact ⟨b, off, x0, x1, rfl, hb1, hb2, hx, i0, i1, hc 0 (by simp), hc 1 (by simp)⟩
theorem rdTok : Rd Try.prog 185 TokR := rd_struct Try.underlying185 (by kernel_rfl) (rdF_cons rfl (by kernel_rfl) (rd_int Try.underlying3) (rdF_one rfl (by kernel_rfl) (rd_int Try.underlying3)) (by decide))
theorem rdToks : Rd Try.prog 151 (sliceR 164 TokR) := rd_slice Try.underlying151 (by kernel_rfl) (by decide) rdTok
theorem lawsToTok (w : World) (x0 : Int) (x1 : Int) :
    Calls Try.prog 134 #[.agg #[.int .i64 x0, .int .i64 x1]] w fun e w' => e = .returned (.agg #[.int .i64 x0, .int .i64 x1]) ∧ Below w.heap.size w w' := by
  go_enter Try.func134, Try.ntmps134
  go_wp2
  refine bodyPost_ret (v := .agg #[.int .i64 x0, .int .i64 x1]) (by simp [results, Try.results134, go_sem]) rfl ⟨rfl, by exact belA⟩
theorem Try.infoTok : (Try.prog.info? 164).map (fun i => (i.zero, i.size, i.bytes)) = some (some (.agg #[.int .i64 0, .int .i64 0]), 2, 16) := by kernel_rfl
theorem lawsToTokS (w : World) (lo hi n c : Nat) (A : Option Addr) (l : List Tok) (h : Sl TokR w lo hi A n c l) (hh : hi ≤ w.heap.size) (hn : n ≤ 1048576) :
    Calls Try.prog 123 #[.slice A n c] w (RetOwn TokR 164 l w) := by
  have e1 := h.lenEq
  obtain ⟨inf, hif, hz0, hz1, hz2⟩ := info_parts Try.infoTok
  go_enter Try.func123, Try.ntmps123
  go_wp2_with (at_make; refine wpList_make_full _ rfl _ _ 118 rfl 0 164 inf (.agg #[.int .i64 0, .int .i64 0]) 2 Try.underlying118 hif hz0 hz1 _ _ _ _ n rfl rfl rfl rfl (by rw [hz2]; omega) (by unfold maxLen; omega) (Nat.zero_le _) ?_)
  intro w1 hown hg
  have hF := Fill.start (R := TokR) hown
  have hb0 : Below w.heap.size w w1 := (Below.refl _ _).grown hg (Nat.le_refl _) (fun k hk => by cases hk)
  clear hown hg
  go_wp2
  go_loopw [4] (fun i wr => ∃ (k : Nat) (F : List Nat), k ≤ n ∧ i = .int .i64 k ∧ Fill TokR wr 164 F w.heap.size n (l.take k) ∧ (∀ j, j ∈ F → w.heap.size ≤ j) ∧ Below w.heap.size w wr) (fun i _ => n - (intOf i).toNat)
  case atStart => exact ⟨0, _, Nat.zero_le _, rfl, hF, by simp, hb0⟩
  case round =>
    obtain ⟨k, F, hk, rfl, hF, hge, hb⟩ := hrel
    by_cases hlt : k < n
    · obtain ⟨b, o, x0, x1, rfl, _, _, hl0, i0, i1, d0, d1⟩ := Tok_at (h.below hb hh) hlt
      have hl := Lib.hid hl0
      clear hl0
      have hbs := hb.size
      go_wp2_with fail
      refine (lawsToTok _ x0 x1).mono ?_
      rintro e w2 ⟨rfl, hb2⟩
      have hF2 := hF.below hb2
      have hlk : (l.take k).length = k := by simp; omega
      obtain ⟨u0, hu0⟩ : ∃ u, w2.cell? ⟨w.heap.size, k * 2, none⟩ = some u := hF2.cell' hlk hlt (j := 0) (by decide)
      obtain ⟨u1, hu1⟩ : ∃ u, w2.cell? ⟨w.heap.size, k * 2 + 1, none⟩ = some u := hF2.cell' hlk hlt (j := 1) (by decide)
      have f0 := hF2.frozen (k * 2)
      have f1 := hF2.frozen (k * 2 + 1)
      have hst := hF2.step' (Fx := []) (cs := [.int .i64 x0, .int .i64 x1]) e1 hlt (by rw [hl.out]; exact Tok_own _ x0 x1 i0 i1) (by simp)
      have hb3 := below_setCells w.heap.size (Nat.le_refl _) [.int .i64 x0, .int .i64 x1] (k * 2) w2 (below_then hb hb2)
      have hge2 : ∀ j, j ∈ F ++ [] → w.heap.size ≤ j := fun j hj => by
        rcases List.mem_append.1 hj with hj | hj
        · exact hge j hj
        · simp at hj
      go_wp2
      go_roundw
      case rel => exact ⟨k + 1, _, by omega, by go_num, hst, hge2, hb3⟩
      case measure => simp [intOf]; omega
    · go_wp2
      go_ret
      exact RetOwn.mk rfl (hF.all e1 (by omega)) hge hb
theorem lawsEqTok (w : World) (lo hi lo' hi' : Nat) (x0 : Int) (x1 : Int) (x0' : Int) (x1' : Int)   (hh : hi ≤ w.heap.size) (hh' : hi' ≤ w.heap.size) :
    Calls Try.prog 138 #[.agg #[.int .i64 x0, .int .i64 x1], .agg #[.int .i64 x0', .int .i64 x1']] w (RetB (eqB (x0, x1) (x0', x1')) w) := by
  go_enter Try.func138, Try.ntmps138
  go_wp2_with fail
  all_goals (go_ret; exact RetB.mk (by simp_all [eqB]) (by exact belA))
theorem lawsEqTokS (w : World) (lo hi lo' hi' n n' c c' : Nat) (A A' : Option Addr) (l l' : List Tok) (h : Sl TokR w lo hi A n c l) (h' : Sl TokR w lo' hi' A' n' c' l') (hh : hi ≤ w.heap.size) (hh' : hi' ≤ w.heap.size) :
    Calls Try.prog 127 #[.slice A n c, .slice A' n' c'] w (RetB (eqB l l') w) := by
  have e1 := h.lenEq
  have e2 := h'.lenEq
  have b1 := h.lenLe
  have b2 := h'.lenLe
  by_cases hn : n = n'
  · subst hn
    have hn' : ((n : Int) != (n : Int)) = false := by simp
    go_enter Try.func127, Try.ntmps127
    go_wp2
    go_loopw [5] (fun i wr => ∃ k : Nat, k ≤ n ∧ i = .int .i64 k ∧ l.take k = l'.take k ∧ Below w.heap.size w wr) (fun i _ => n - (intOf i).toNat)
    case atStart => exact ⟨0, Nat.zero_le _, rfl, rfl, Below.refl _ _⟩
    case round =>
      obtain ⟨k, hk, rfl, ht0, hb⟩ := hrel
      have ht := Lib.hid ht0
      clear ht0
      have hbs := hb.size
      by_cases hlt : k < n
      · obtain ⟨b, o, x0, x1, rfl, _, _, hl0, i0, i1, d0, d1⟩ := Tok_at (h.below hb hh) hlt
        obtain ⟨b', o', x0', x1', rfl, _, _, hl0', i0', i1', d0', d1'⟩ := Tok_at (h'.below hb hh') hlt
        have hl := Lib.hid hl0
        have hl' := Lib.hid hl0'
        clear hl0 hl0'
        have hst := Lib.hid (fun (he : l[k]'(by omega) = l'[k]'(by omega)) => take_eq_snoc ht.out (by omega) (by omega) he)
        have hne := Lib.hid (fun (he : ¬ l[k]'(by omega) = l'[k]'(by omega)) => ne_of_at (by omega) (by omega) he)
        by_cases he0 : (x0, x1) = (x0', x1')
        · have hd := eqB_true he0
          have hs := Lib.hid (hst.out (by rw [hl.out, hl'.out, he0]))
          clear he0
          go_wp2_with fail
          go_region_held3 (fun w' => w'.cell? ⟨b, o + k * 2, none⟩ = some (.int .i64 x0) ∧ w'.cell? ⟨b, o + k * 2 + 1, none⟩ = some (.int .i64 x1) ∧ w'.cell? ⟨b', o' + k * 2, none⟩ = some (.int .i64 x0') ∧ w'.cell? ⟨b', o' + k * 2 + 1, none⟩ = some (.int .i64 x1')) (first | exact ⟨d0, d1, d0', d1'⟩ | exact ⟨below_cell hb2 d0, below_cell hb2 d1, below_cell hb2 d0', below_cell hb2 d1'⟩)
            (first | (go_at_call 138; refine (lawsEqTok _ lo hi lo' hi' x0 x1 x0' x1'   (by first | omega | (simp; omega)) (by first | omega | (simp; omega))).mono ?_; rintro e w2 ⟨rfl, hb2⟩))
          have hb3 := below_then hb.drew hb2
          go_wp2_with fail
          go_roundw
          case rel => exact ⟨k + 1, by omega, by go_num, hs.out, hb3⟩
          case measure => simp [intOf]; omega
        · have hd := eqB_false he0
          have hs := Lib.hid (eqB_false (hne.out (by rw [hl.out, hl'.out]; exact he0)))
          clear he0
          go_wp2_with fail
          go_region_held3 (fun w' => w'.cell? ⟨b, o + k * 2, none⟩ = some (.int .i64 x0) ∧ w'.cell? ⟨b, o + k * 2 + 1, none⟩ = some (.int .i64 x1) ∧ w'.cell? ⟨b', o' + k * 2, none⟩ = some (.int .i64 x0') ∧ w'.cell? ⟨b', o' + k * 2 + 1, none⟩ = some (.int .i64 x1')) (first | exact ⟨d0, d1, d0', d1'⟩ | exact ⟨below_cell hb2 d0, below_cell hb2 d1, below_cell hb2 d0', below_cell hb2 d1'⟩)
            (first | (go_at_call 138; refine (lawsEqTok _ lo hi lo' hi' x0 x1 x0' x1'   (by first | omega | (simp; omega)) (by first | omega | (simp; omega))).mono ?_; rintro e w2 ⟨rfl, hb2⟩))
          have hb3 := below_then hb.drew hb2
          go_wp2_with fail
          go_ret
          exact RetB.mk hs.out.symm hb3
      · go_wp2_with fail
        go_ret
        exact RetB.mk (eqB_true (eq_of_takes ht.out (by omega) (by omega))).symm hb
  · have hn' : ((n : Int) != (n' : Int)) = true := by simp; omega
    have hd := Lib.hid (eqB_false (x := l) (y := l') (by rintro rfl; omega))
    go_enter Try.func127, Try.ntmps127
    go_wp2
    go_ret
    exact RetB.mk hd.out.symm (Below.refl _ _)
theorem lawsSzTokS (w : World) (n c : Nat) (A : Option Addr) (left : Int) (h1 : 0 ≤ left) (h2 : left ≤ 1048576) (hn : n ≤ 9223372036854775807) :
    Calls Try.prog 119 #[.slice A n c, .int .i64 left] w (RetSz left n w) := by
  by_cases h : (n : Int) ≤ left
  · go_enter Try.func119, Try.ntmps119
    go_wp2
    go_ret
    exact ⟨_, rfl, Or.inr ⟨by omega, rfl⟩, Below.refl _ _⟩
  · have hd : decide (left - (n : Int) < 0) = true := by simp; omega
    go_enter Try.func119, Try.ntmps119
    go_wp2
    go_ret
    exact ⟨_, rfl, Or.inl rfl, Below.refl _ _⟩
end Go.Proofs.Ytgoinmdnpaknpaa

/- slices.IndexFunc, slices.ContainsFunc over slices of Tok. Printed by anygen.py. Walks. -/
set_option linter.unusedVariables false
set_option linter.unusedSimpArgs false
set_option maxRecDepth 100000
namespace Go.Proofs.Ytgoinmdnpaknpaa
open Go.RowKit

end Go.Proofs.Ytgoinmdnpaknpaa

/- Stmt: how it lies in cells; the laws' own helpers over it. Printed by typegen.py. Walks. -/
set_option linter.unusedVariables false
set_option linter.unusedSimpArgs false
set_option maxRecDepth 100000
namespace Go.Proofs.Ytgoinmdnpaknpaa
open Go.RowKit

abbrev Stmt := Int × Int × List Tok × List Int × List Int
def StmtR : Rp Stmt := pairR intR (pairR intR (pairR (sliceR 164 TokR) (pairR (sliceR 3 intR) (sliceR 3 intR))))
def mszStmt (x : Stmt) : Nat := (x.2.2.1).length + (x.2.2.2.1).length + (x.2.2.2.2).length
def mszLStmt (l : List Stmt) : Nat := l.length + (l.map mszStmt).sum
theorem mszStmt_at {l : List Stmt} {k : Nat} (hk : k < l.length) : mszStmt l[k] ≤ mszLStmt l := by have := mem_sum_le (f := mszStmt) (List.getElem_mem hk); unfold mszLStmt; omega
theorem mszLStmt_len (l : List Stmt) : l.length ≤ mszLStmt l := by unfold mszLStmt; omega
theorem Stmt_rel {w : World} {lo hi : Nat} {cs : List Value} {x : Stmt} (h : StmtR.rel w lo hi cs x) : ∃ x0 x1 A2 n2 c2 s2 A3 n3 c3 s3 A4 n4 c4 s4, cs = ([.int .i64 x0, .int .i64 x1, .slice A2 n2 c2, .slice A3 n3 c3, .slice A4 n4 c4] : List Value) ∧ x = (x0, x1, s2, s3, s4) ∧ I64 x0 ∧ I64 x1 ∧ Sl TokR w lo hi A2 n2 c2 s2 ∧ Sl intR w lo hi A3 n3 c3 s3 ∧ Sl intR w lo hi A4 n4 c4 s4 := by
  obtain ⟨_, _, rfl, ⟨rfl, i0⟩, _, _, rfl, ⟨rfl, i1⟩, _, _, rfl, ⟨A2, n2, c2, rfl, h2⟩, _, _, rfl, ⟨A3, n3, c3, rfl, h3⟩, ⟨A4, n4, c4, rfl, h4⟩⟩ := h
  exact ⟨x.1, x.2.1, A2, n2, c2, x.2.2.1, A3, n3, c3, x.2.2.2.1, A4, n4, c4, x.2.2.2.2, rfl, rfl, i0, i1, h2, h3, h4⟩
theorem Stmt_own {w : World} {x0 : Int} {x1 : Int} {A2 : Option Addr} {n2 c2 : Nat} {s2 : List Tok} {A3 : Option Addr} {n3 c3 : Nat} {s3 : List Int} {A4 : Option Addr} {n4 c4 : Nat} {s4 : List Int} {F2 : List Nat} (o2 : OwnSl TokR w 164 F2 (.slice A2 n2 c2) s2) {F3 : List Nat} (o3 : OwnSl intR w 3 F3 (.slice A3 n3 c3) s3) {F4 : List Nat} (o4 : OwnSl intR w 3 F4 (.slice A4 n4 c4) s4) (i0 : I64 x0) (i1 : I64 x1) (hF : ((F2 ++ (F3 ++ F4))).Nodup) : StmtR.own w ((F2 ++ (F3 ++ F4))) [.int .i64 x0, .int .i64 x1, .slice A2 n2 c2, .slice A3 n3 c3, .slice A4 n4 c4] (x0, x1, s2, s3, s4) := by
  have hF2 := hF; simp only [List.nodup_append] at hF2
  exact ⟨[_], [_, _, _, _], [], (F2 ++ (F3 ++ F4)), rfl, by simp, ⟨rfl, rfl, i0⟩, ⟨[_], [_, _, _], [], (F2 ++ (F3 ++ F4)), rfl, by simp, ⟨rfl, rfl, i1⟩, ⟨[_], [_, _], F2, (F3 ++ F4), rfl, by simp, ⟨A2, n2, c2, rfl, o2⟩, ⟨[_], [_], F3, F4, rfl, by simp, ⟨A3, n3, c3, rfl, o3⟩, ⟨A4, n4, c4, rfl, o4⟩, by simp_all [List.nodup_append]⟩, by simp_all [List.nodup_append]⟩, by simp_all [List.nodup_append]⟩, by simp_all [List.nodup_append]⟩
theorem Stmt_sl2 {w : World} {F : List Nat} {x0 : Int} {x1 : Int} {A2 : Option Addr} {n2 c2 : Nat} {s2 : List Tok} {A3 : Option Addr} {n3 c3 : Nat} {s3 : List Int} {A4 : Option Addr} {n4 c4 : Nat} {s4 : List Int} (h : StmtR.own w F [.int .i64 x0, .int .i64 x1, .slice A2 n2 c2, .slice A3 n3 c3, .slice A4 n4 c4] (x0, x1, s2, s3, s4)) : Sl TokR w 0 w.heap.size A2 n2 c2 s2 := by
  have hr := StmtR.ownRel h (fun k hk => ⟨Nat.zero_le k, StmtR.ownLt h k hk⟩)
  obtain ⟨x0q, x1q, A2q, n2q, c2q, s2q, A3q, n3q, c3q, s3q, A4q, n4q, c4q, s4q, e, hx, i0, i1, h2, h3, h4⟩ := Stmt_rel hr
  simp only [List.cons.injEq, Value.slice.injEq, Value.int.injEq, Value.bool.injEq, and_true, true_and, Prod.mk.injEq] at e hx
  simp only [e, hx]; exact h2
theorem Stmt_sl3 {w : World} {F : List Nat} {x0 : Int} {x1 : Int} {A2 : Option Addr} {n2 c2 : Nat} {s2 : List Tok} {A3 : Option Addr} {n3 c3 : Nat} {s3 : List Int} {A4 : Option Addr} {n4 c4 : Nat} {s4 : List Int} (h : StmtR.own w F [.int .i64 x0, .int .i64 x1, .slice A2 n2 c2, .slice A3 n3 c3, .slice A4 n4 c4] (x0, x1, s2, s3, s4)) : Sl intR w 0 w.heap.size A3 n3 c3 s3 := by
  have hr := StmtR.ownRel h (fun k hk => ⟨Nat.zero_le k, StmtR.ownLt h k hk⟩)
  obtain ⟨x0q, x1q, A2q, n2q, c2q, s2q, A3q, n3q, c3q, s3q, A4q, n4q, c4q, s4q, e, hx, i0, i1, h2, h3, h4⟩ := Stmt_rel hr
  simp only [List.cons.injEq, Value.slice.injEq, Value.int.injEq, Value.bool.injEq, and_true, true_and, Prod.mk.injEq] at e hx
  simp only [e, hx]; exact h3
theorem Stmt_sl4 {w : World} {F : List Nat} {x0 : Int} {x1 : Int} {A2 : Option Addr} {n2 c2 : Nat} {s2 : List Tok} {A3 : Option Addr} {n3 c3 : Nat} {s3 : List Int} {A4 : Option Addr} {n4 c4 : Nat} {s4 : List Int} (h : StmtR.own w F [.int .i64 x0, .int .i64 x1, .slice A2 n2 c2, .slice A3 n3 c3, .slice A4 n4 c4] (x0, x1, s2, s3, s4)) : Sl intR w 0 w.heap.size A4 n4 c4 s4 := by
  have hr := StmtR.ownRel h (fun k hk => ⟨Nat.zero_le k, StmtR.ownLt h k hk⟩)
  obtain ⟨x0q, x1q, A2q, n2q, c2q, s2q, A3q, n3q, c3q, s3q, A4q, n4q, c4q, s4q, e, hx, i0, i1, h2, h3, h4⟩ := Stmt_rel hr
  simp only [List.cons.injEq, Value.slice.injEq, Value.int.injEq, Value.bool.injEq, and_true, true_and, Prod.mk.injEq] at e hx
  simp only [e, hx]; exact h4
theorem Stmt_at {w : World} {lo hi : Nat} {A : Option Addr} {n c k : Nat} {l : List Stmt} (h : Sl StmtR w lo hi A n c l) (hk : k < n) :
    ∃ b off x0 x1 A2 n2 c2 s2 A3 n3 c3 s3 A4 n4 c4 s4, A = some ⟨b, off, none⟩ ∧ lo ≤ b ∧ b < hi ∧ l[k]'(by have := h.1; omega) = (x0, x1, s2, s3, s4) ∧ I64 x0 ∧ I64 x1 ∧ Sl TokR w lo hi A2 n2 c2 s2 ∧ Sl intR w lo hi A3 n3 c3 s3 ∧ Sl intR w lo hi A4 n4 c4 s4 ∧ w.cell? ⟨b, off + k * 5, none⟩ = some (.int .i64 x0) ∧ w.cell? ⟨b, off + k * 5 + 1, none⟩ = some (.int .i64 x1) ∧ w.cell? ⟨b, off + k * 5 + 2, none⟩ = some (.slice A2 n2 c2) ∧ w.cell? ⟨b, off + k * 5 + 3, none⟩ = some (.slice A3 n3 c3) ∧ w.cell? ⟨b, off + k * 5 + 4, none⟩ = some (.slice A4 n4 c4) := by
  obtain ⟨b, off, cs, rfl, hb1, hb2, hr, hc⟩ := h.at_ hk
  obtain ⟨x0, x1, A2, n2, c2, s2, A3, n3, c3, s3, A4, n4, c4, s4, rfl, hx, i0, i1, h2, h3, h4⟩ := Stmt_rel hr
  exact ⟨b, off, x0, x1, A2, n2, c2, s2, A3, n3, c3, s3, A4, n4, c4, s4, rfl, hb1, hb2, hx, i0, i1, h2, h3, h4, hc 0 (by simp), hc 1 (by simp), hc 2 (by simp), hc 3 (by simp), hc 4 (by simp)⟩
theorem rdStmt : Rd Try.prog 153 StmtR := rd_struct Try.underlying153 (by kernel_rfl) (rdF_cons rfl (by kernel_rfl) (rd_int Try.underlying3) (rdF_cons rfl (by kernel_rfl) (rd_int Try.underlying3) (rdF_cons rfl (by kernel_rfl) rdToks (rdF_cons rfl (by kernel_rfl) rdInts (rdF_one rfl (by kernel_rfl) rdInts) (by decide)) (by decide)) (by decide)) (by decide))
theorem rdStmts : Rd Try.prog 80 (sliceR 120 StmtR) := rd_slice Try.underlying80 (by kernel_rfl) (by decide) rdStmt
def RetToStmt (x0 : Int) (x1 : Int) (s2 : List Tok) (s3 : List Int) (s4 : List Int) (w : World) (e : Ending) (w' : World) : Prop :=
  ∃ F A2 n2 c2 A3 n3 c3 A4 n4 c4, e = .returned (.agg #[.int .i64 x0, .int .i64 x1, .slice A2 n2 c2, .slice A3 n3 c3, .slice A4 n4 c4]) ∧ StmtR.own w' F [.int .i64 x0, .int .i64 x1, .slice A2 n2 c2, .slice A3 n3 c3, .slice A4 n4 c4] (x0, x1, s2, s3, s4) ∧ (∀ k, k ∈ F → w.heap.size ≤ k) ∧ Below w.heap.size w w'
theorem lawsToStmt (w : World) (lo hi : Nat) (x0 : Int) (x1 : Int) (A2 : Option Addr) (n2 c2 : Nat) (s2 : List Tok) (A3 : Option Addr) (n3 c3 : Nat) (s3 : List Int) (A4 : Option Addr) (n4 c4 : Nat) (s4 : List Int) (h2 : Sl TokR w lo hi A2 n2 c2 s2) (h3 : Sl intR w lo hi A3 n3 c3 s3) (h4 : Sl intR w lo hi A4 n4 c4 s4) (hh : hi ≤ w.heap.size) (m2 : s2.length ≤ 1048576) (m3 : s3.length ≤ 1048576) (m4 : s4.length ≤ 1048576) (i0 : I64 x0) (i1 : I64 x1) :
    Calls Try.prog 104 #[.agg #[.int .i64 x0, .int .i64 x1, .slice A2 n2 c2, .slice A3 n3 c3, .slice A4 n4 c4]] w (RetToStmt x0 x1 s2 s3 s4 w) := by
  go_enter Try.func104, Try.ntmps104
  go_wp2_with fail
  refine (lawsToTokS _ lo hi n2 c2 A2 s2 (h2.below (B := w.heap.size) (by exact belA) hh) (by first | omega | (simp; omega)) (by have := h2.lenEq; omega)).mono ?_
  rintro e w2 ⟨F2, A2', n2', c2', rfl, o2, f2, b2⟩
  obtain ⟨hc2, hf2⟩ := bcell b2
  have hz2 := b2.size
  try simp at hz2
  have hv2 : w.heap.size < w2.heap.size := by omega
  have hx2 : w.heap.size + 1 < w2.heap.size := by omega
  have hy2 : w.heap.size + 1 + 1 < w2.heap.size := by omega
  have g2 : ∀ k, k ∈ F2 → w.heap.size + 3 ≤ k := fun k hk => by have := f2 k hk; simp at this; omega
  have l2 := o2.lt
  go_wp2_with fail
  refine (lawsToIntS _ lo hi n3 c3 A3 s3 (h3.below (B := w.heap.size) (by exact belA) hh) (by first | omega | (simp; omega)) (by have := h3.lenEq; omega)).mono ?_
  rintro e w3 ⟨F3, A3', n3', c3', rfl, o3, f3, b3⟩
  obtain ⟨hc3, hf3⟩ := bcell b3
  have hz3 := b3.size
  try simp at hz3
  have hv3 : w.heap.size < w3.heap.size := by omega
  have hx3 : w.heap.size + 1 < w3.heap.size := by omega
  have hy3 : w.heap.size + 1 + 1 < w3.heap.size := by omega
  have g3 : ∀ k, k ∈ F3 → w2.heap.size ≤ k := fun k hk => by have := f3 k hk; simp at this; omega
  have l3 := o3.lt
  go_wp2_with fail
  refine (lawsToIntS _ lo hi n4 c4 A4 s4 (h4.below (B := w.heap.size) (by exact belA) hh) (by first | omega | (simp; omega)) (by have := h4.lenEq; omega)).mono ?_
  rintro e w4 ⟨F4, A4', n4', c4', rfl, o4, f4, b4⟩
  obtain ⟨hc4, hf4⟩ := bcell b4
  have hz4 := b4.size
  try simp at hz4
  have hv4 : w.heap.size < w4.heap.size := by omega
  have hx4 : w.heap.size + 1 < w4.heap.size := by omega
  have hy4 : w.heap.size + 1 + 1 < w4.heap.size := by omega
  have g4 : ∀ k, k ∈ F4 → w3.heap.size ≤ k := fun k hk => by have := f4 k hk; simp at this; omega
  have l4 := o4.lt
  go_wp2_with fail
  refine bodyPost_ret (v := .agg #[.int .i64 x0, .int .i64 x1, .slice A2' n2' c2', .slice A3' n3' c3', .slice A4' n4' c4']) (by simp [results, Try.results104, go_sem, hc2, hf2, hv2, hx2, hy2, hc3, hf3, hv3, hx3, hy3, hc4, hf4, hv4, hx4, hy4]) rfl ?_
  have k2 := fun (W : World) (hW : Fr [w.heap.size, w.heap.size + 1, w.heap.size + 1 + 1] w2 W) => o2.fr hW (fun k hk hk' => by have := g2 k hk; simp at hk'; omega)
  have k3 := fun (W : World) (hW : Fr [w.heap.size, w.heap.size + 1, w.heap.size + 1 + 1] w3 W) => o3.fr hW (fun k hk hk' => by have := g3 k hk; simp at hk'; omega)
  have k4 := fun (W : World) (hW : Fr [w.heap.size, w.heap.size + 1, w.heap.size + 1 + 1] w4 W) => o4.fr hW (fun k hk hk' => by have := g4 k hk; simp at hk'; omega)
  exact ⟨_, A2', n2', c2', A3', n3', c3', A4', n4', c4', rfl, Stmt_own (k2 _ (by exact frcA)) (k3 _ (by exact frcA)) (k4 _ (by exact frcA)) i0 i1 (nodup_app o2.nodup (nodup_app o3.nodup o4.nodup l3 (fun k hk => by have := g4 k hk; omega)) l2 (fun k hk => by (simp only [List.mem_append] at hk; rcases hk with hk | hk; all_goals first | (have := g3 k hk; omega) | (have := g4 k hk; omega)))), fun k hk => by (simp only [List.mem_append] at hk; rcases hk with hk | hk | hk; all_goals first | (have := g2 k hk; omega) | (have := g3 k hk; omega) | (have := g4 k hk; omega)), by exact belA⟩
theorem Try.infoStmt : (Try.prog.info? 120).map (fun i => (i.zero, i.size, i.bytes)) = some (some (.agg #[.int .i64 0, .int .i64 0, .slice none 0 0, .slice none 0 0, .slice none 0 0]), 5, 88) := by kernel_rfl
theorem lawsToStmtS (w : World) (lo hi n c : Nat) (A : Option Addr) (l : List Stmt) (h : Sl StmtR w lo hi A n c l) (hh : hi ≤ w.heap.size) (hm : mszLStmt l ≤ 1048576) :
    Calls Try.prog 75 #[.slice A n c] w (RetOwn StmtR 120 l w) := by
  have e1 := h.lenEq
  have hn : n ≤ 1048576 := by have := mszLStmt_len l; omega
  obtain ⟨inf, hif, hz0, hz1, hz2⟩ := info_parts Try.infoStmt
  go_enter Try.func75, Try.ntmps75
  go_wp2_with (at_make; refine wpList_make_full _ rfl _ _ 95 rfl 0 120 inf (.agg #[.int .i64 0, .int .i64 0, .slice none 0 0, .slice none 0 0, .slice none 0 0]) 5 Try.underlying95 hif hz0 hz1 _ _ _ _ n rfl rfl rfl rfl (by rw [hz2]; omega) (by unfold maxLen; omega) (Nat.zero_le _) ?_)
  intro w1 hown hg
  have hF := Fill.start (R := StmtR) hown
  have hb0 : Below w.heap.size w w1 := (Below.refl _ _).grown hg (Nat.le_refl _) (fun k hk => by cases hk)
  clear hown hg
  go_wp2
  go_loopw [4] (fun i wr => ∃ (k : Nat) (F : List Nat), k ≤ n ∧ i = .int .i64 k ∧ Fill StmtR wr 120 F w.heap.size n (l.take k) ∧ (∀ j, j ∈ F → w.heap.size ≤ j) ∧ Below w.heap.size w wr) (fun i _ => n - (intOf i).toNat)
  case atStart => exact ⟨0, _, Nat.zero_le _, rfl, hF, by simp, hb0⟩
  case round =>
    obtain ⟨k, F, hk, rfl, hF, hge, hb⟩ := hrel
    by_cases hlt : k < n
    · obtain ⟨b, o, x0, x1, A2, n2, c2, s2, A3, n3, c3, s3, A4, n4, c4, s4, rfl, _, _, hl0, i0, i1, h2, h3, h4, d0, d1, d2, d3, d4⟩ := Stmt_at (h.below hb hh) hlt
      have hmk := mszStmt_at (l := l) (k := k) (by omega)
      rw [hl0] at hmk
      simp only [mszStmt] at hmk
      have hl := Lib.hid hl0
      clear hl0
      have hbs := hb.size
      go_wp2_with fail
      refine (lawsToStmt _ lo hi x0 x1 A2 n2 c2 s2 A3 n3 c3 s3 A4 n4 c4 s4 h2 h3 h4 (by omega) (by omega) (by omega) (by omega) i0 i1).mono ?_
      rintro e w2 ⟨Fx, A2', n2', c2', A3', n3', c3', A4', n4', c4', rfl, hox, hfx, hb2⟩
      have hF2 := hF.below hb2
      have hlk : (l.take k).length = k := by simp; omega
      obtain ⟨u0, hu0⟩ : ∃ u, w2.cell? ⟨w.heap.size, k * 5, none⟩ = some u := hF2.cell' hlk hlt (j := 0) (by decide)
      obtain ⟨u1, hu1⟩ : ∃ u, w2.cell? ⟨w.heap.size, k * 5 + 1, none⟩ = some u := hF2.cell' hlk hlt (j := 1) (by decide)
      obtain ⟨u2, hu2⟩ : ∃ u, w2.cell? ⟨w.heap.size, k * 5 + 2, none⟩ = some u := hF2.cell' hlk hlt (j := 2) (by decide)
      obtain ⟨u3, hu3⟩ : ∃ u, w2.cell? ⟨w.heap.size, k * 5 + 3, none⟩ = some u := hF2.cell' hlk hlt (j := 3) (by decide)
      obtain ⟨u4, hu4⟩ : ∃ u, w2.cell? ⟨w.heap.size, k * 5 + 4, none⟩ = some u := hF2.cell' hlk hlt (j := 4) (by decide)
      have f0 := hF2.frozen (k * 5)
      have f1 := hF2.frozen (k * 5 + 1)
      have f2 := hF2.frozen (k * 5 + 2)
      have f3 := hF2.frozen (k * 5 + 3)
      have f4 := hF2.frozen (k * 5 + 4)
      have hst := hF2.step' (Fx := Fx) (cs := [.int .i64 x0, .int .i64 x1, .slice A2' n2' c2', .slice A3' n3' c3', .slice A4' n4' c4']) e1 hlt (by rw [hl.out]; exact hox) (fun i h1 h2 => by have := hfx i h1; have := hF.lt i h2; omega)
      have hb3 := below_setCells w.heap.size (Nat.le_refl _) [.int .i64 x0, .int .i64 x1, .slice A2' n2' c2', .slice A3' n3' c3', .slice A4' n4' c4'] (k * 5) w2 (below_then hb hb2)
      have hge2 : ∀ j, j ∈ F ++ Fx → w.heap.size ≤ j := fun j hj => by
        rcases List.mem_append.1 hj with hj | hj
        · exact hge j hj
        · have := hfx j hj; omega
      go_wp2
      go_roundw
      case rel => exact ⟨k + 1, _, by omega, by go_num, hst, hge2, hb3⟩
      case measure => simp [intOf]; omega
    · go_wp2
      go_ret
      exact RetOwn.mk rfl (hF.all e1 (by omega)) hge hb
theorem lawsEqStmt (w : World) (lo hi lo' hi' : Nat) (x0 : Int) (x1 : Int) (A2 : Option Addr) (n2 c2 : Nat) (s2 : List Tok) (A3 : Option Addr) (n3 c3 : Nat) (s3 : List Int) (A4 : Option Addr) (n4 c4 : Nat) (s4 : List Int) (x0' : Int) (x1' : Int) (A2' : Option Addr) (n2' c2' : Nat) (s2' : List Tok) (A3' : Option Addr) (n3' c3' : Nat) (s3' : List Int) (A4' : Option Addr) (n4' c4' : Nat) (s4' : List Int) (h2 : Sl TokR w lo hi A2 n2 c2 s2) (h3 : Sl intR w lo hi A3 n3 c3 s3) (h4 : Sl intR w lo hi A4 n4 c4 s4) (h2' : Sl TokR w lo' hi' A2' n2' c2' s2') (h3' : Sl intR w lo' hi' A3' n3' c3' s3') (h4' : Sl intR w lo' hi' A4' n4' c4' s4') (hh : hi ≤ w.heap.size) (hh' : hi' ≤ w.heap.size) :
    Calls Try.prog 113 #[.agg #[.int .i64 x0, .int .i64 x1, .slice A2 n2 c2, .slice A3 n3 c3, .slice A4 n4 c4], .agg #[.int .i64 x0', .int .i64 x1', .slice A2' n2' c2', .slice A3' n3' c3', .slice A4' n4' c4']] w (RetB (eqB (x0, x1, s2, s3, s4) (x0', x1', s2', s3', s4')) w) := by
  go_enter Try.func113, Try.ntmps113
  go_wp2_with fail
  all_goals try (go_ret; exact RetB.mk (by simp_all [eqB]) (by exact belA))
  refine (lawsEqTokS _ lo hi lo' hi' n2 n2' c2 c2' A2 A2' s2 s2' (h2.below (B := w.heap.size) (by exact belA) hh) (h2'.below (B := w.heap.size) (by exact belA) hh') (by first | omega | (simp; omega)) (by first | omega | (simp; omega))).mono ?_
  rintro e w2 ⟨rfl, b2⟩
  obtain ⟨hc2, hf2⟩ := bcell b2
  have hz2 := b2.size
  try simp at hz2
  have hv2 : w.heap.size < w2.heap.size := by omega
  have hx2 : w.heap.size + 1 < w2.heap.size := by omega
  go_wp2_with fail
  all_goals try (go_ret; exact RetB.mk (by simp_all [eqB]) (by exact belA))
  refine (lawsEqIntS _ lo hi lo' hi' n3 n3' c3 c3' A3 A3' s3 s3' (h3.below (B := w.heap.size) (by exact belA) hh) (h3'.below (B := w.heap.size) (by exact belA) hh') (by first | omega | (simp; omega)) (by first | omega | (simp; omega))).mono ?_
  rintro e w3 ⟨rfl, b3⟩
  obtain ⟨hc3, hf3⟩ := bcell b3
  have hz3 := b3.size
  try simp at hz3
  have hv3 : w.heap.size < w3.heap.size := by omega
  have hx3 : w.heap.size + 1 < w3.heap.size := by omega
  go_wp2_with fail
  all_goals try (go_ret; exact RetB.mk (by simp_all [eqB]) (by exact belA))
  refine (lawsEqIntS _ lo hi lo' hi' n4 n4' c4 c4' A4 A4' s4 s4' (h4.below (B := w.heap.size) (by exact belA) hh) (h4'.below (B := w.heap.size) (by exact belA) hh') (by first | omega | (simp; omega)) (by first | omega | (simp; omega))).mono ?_
  rintro e w4 ⟨rfl, b4⟩
  obtain ⟨hc4, hf4⟩ := bcell b4
  have hz4 := b4.size
  try simp at hz4
  have hv4 : w.heap.size < w4.heap.size := by omega
  have hx4 : w.heap.size + 1 < w4.heap.size := by omega
  go_wp2_with fail
  all_goals (go_ret; exact RetB.mk (by simp_all [eqB]) (by exact belA))
theorem lawsEqStmtS (w : World) (lo hi lo' hi' n n' c c' : Nat) (A A' : Option Addr) (l l' : List Stmt) (h : Sl StmtR w lo hi A n c l) (h' : Sl StmtR w lo' hi' A' n' c' l') (hh : hi ≤ w.heap.size) (hh' : hi' ≤ w.heap.size) :
    Calls Try.prog 86 #[.slice A n c, .slice A' n' c'] w (RetB (eqB l l') w) := by
  have e1 := h.lenEq
  have e2 := h'.lenEq
  have b1 := h.lenLe
  have b2 := h'.lenLe
  by_cases hn : n = n'
  · subst hn
    have hn' : ((n : Int) != (n : Int)) = false := by simp
    go_enter Try.func86, Try.ntmps86
    go_wp2
    go_loopw [5] (fun i wr => ∃ k : Nat, k ≤ n ∧ i = .int .i64 k ∧ l.take k = l'.take k ∧ Below w.heap.size w wr) (fun i _ => n - (intOf i).toNat)
    case atStart => exact ⟨0, Nat.zero_le _, rfl, rfl, Below.refl _ _⟩
    case round =>
      obtain ⟨k, hk, rfl, ht0, hb⟩ := hrel
      have ht := Lib.hid ht0
      clear ht0
      have hbs := hb.size
      by_cases hlt : k < n
      · obtain ⟨b, o, x0, x1, A2, n2, c2, s2, A3, n3, c3, s3, A4, n4, c4, s4, rfl, _, _, hl0, i0, i1, h2, h3, h4, d0, d1, d2, d3, d4⟩ := Stmt_at (h.below hb hh) hlt
        obtain ⟨b', o', x0', x1', A2', n2', c2', s2', A3', n3', c3', s3', A4', n4', c4', s4', rfl, _, _, hl0', i0', i1', h2', h3', h4', d0', d1', d2', d3', d4'⟩ := Stmt_at (h'.below hb hh') hlt
        have hl := Lib.hid hl0
        have hl' := Lib.hid hl0'
        clear hl0 hl0'
        have hst := Lib.hid (fun (he : l[k]'(by omega) = l'[k]'(by omega)) => take_eq_snoc ht.out (by omega) (by omega) he)
        have hne := Lib.hid (fun (he : ¬ l[k]'(by omega) = l'[k]'(by omega)) => ne_of_at (by omega) (by omega) he)
        by_cases he0 : (x0, x1, s2, s3, s4) = (x0', x1', s2', s3', s4')
        · have hd := eqB_true he0
          have hs := Lib.hid (hst.out (by rw [hl.out, hl'.out, he0]))
          clear he0
          go_wp2_with fail
          go_region_held3 (fun w' => w'.cell? ⟨b, o + k * 5, none⟩ = some (.int .i64 x0) ∧ w'.cell? ⟨b, o + k * 5 + 1, none⟩ = some (.int .i64 x1) ∧ w'.cell? ⟨b, o + k * 5 + 2, none⟩ = some (.slice A2 n2 c2) ∧ w'.cell? ⟨b, o + k * 5 + 3, none⟩ = some (.slice A3 n3 c3) ∧ w'.cell? ⟨b, o + k * 5 + 4, none⟩ = some (.slice A4 n4 c4) ∧ w'.cell? ⟨b', o' + k * 5, none⟩ = some (.int .i64 x0') ∧ w'.cell? ⟨b', o' + k * 5 + 1, none⟩ = some (.int .i64 x1') ∧ w'.cell? ⟨b', o' + k * 5 + 2, none⟩ = some (.slice A2' n2' c2') ∧ w'.cell? ⟨b', o' + k * 5 + 3, none⟩ = some (.slice A3' n3' c3') ∧ w'.cell? ⟨b', o' + k * 5 + 4, none⟩ = some (.slice A4' n4' c4')) (first | exact ⟨d0, d1, d2, d3, d4, d0', d1', d2', d3', d4'⟩ | exact ⟨below_cell hb2 d0, below_cell hb2 d1, below_cell hb2 d2, below_cell hb2 d3, below_cell hb2 d4, below_cell hb2 d0', below_cell hb2 d1', below_cell hb2 d2', below_cell hb2 d3', below_cell hb2 d4'⟩)
            (first | (go_at_call 113; refine (lawsEqStmt _ lo hi lo' hi' x0 x1 A2 n2 c2 s2 A3 n3 c3 s3 A4 n4 c4 s4 x0' x1' A2' n2' c2' s2' A3' n3' c3' s3' A4' n4' c4' s4' h2.drew h3.drew h4.drew h2'.drew h3'.drew h4'.drew (by first | omega | (simp; omega)) (by first | omega | (simp; omega))).mono ?_; rintro e w2 ⟨rfl, hb2⟩))
          have hb3 := below_then hb.drew hb2
          go_wp2_with fail
          go_roundw
          case rel => exact ⟨k + 1, by omega, by go_num, hs.out, hb3⟩
          case measure => simp [intOf]; omega
        · have hd := eqB_false he0
          have hs := Lib.hid (eqB_false (hne.out (by rw [hl.out, hl'.out]; exact he0)))
          clear he0
          go_wp2_with fail
          go_region_held3 (fun w' => w'.cell? ⟨b, o + k * 5, none⟩ = some (.int .i64 x0) ∧ w'.cell? ⟨b, o + k * 5 + 1, none⟩ = some (.int .i64 x1) ∧ w'.cell? ⟨b, o + k * 5 + 2, none⟩ = some (.slice A2 n2 c2) ∧ w'.cell? ⟨b, o + k * 5 + 3, none⟩ = some (.slice A3 n3 c3) ∧ w'.cell? ⟨b, o + k * 5 + 4, none⟩ = some (.slice A4 n4 c4) ∧ w'.cell? ⟨b', o' + k * 5, none⟩ = some (.int .i64 x0') ∧ w'.cell? ⟨b', o' + k * 5 + 1, none⟩ = some (.int .i64 x1') ∧ w'.cell? ⟨b', o' + k * 5 + 2, none⟩ = some (.slice A2' n2' c2') ∧ w'.cell? ⟨b', o' + k * 5 + 3, none⟩ = some (.slice A3' n3' c3') ∧ w'.cell? ⟨b', o' + k * 5 + 4, none⟩ = some (.slice A4' n4' c4')) (first | exact ⟨d0, d1, d2, d3, d4, d0', d1', d2', d3', d4'⟩ | exact ⟨below_cell hb2 d0, below_cell hb2 d1, below_cell hb2 d2, below_cell hb2 d3, below_cell hb2 d4, below_cell hb2 d0', below_cell hb2 d1', below_cell hb2 d2', below_cell hb2 d3', below_cell hb2 d4'⟩)
            (first | (go_at_call 113; refine (lawsEqStmt _ lo hi lo' hi' x0 x1 A2 n2 c2 s2 A3 n3 c3 s3 A4 n4 c4 s4 x0' x1' A2' n2' c2' s2' A3' n3' c3' s3' A4' n4' c4' s4' h2.drew h3.drew h4.drew h2'.drew h3'.drew h4'.drew (by first | omega | (simp; omega)) (by first | omega | (simp; omega))).mono ?_; rintro e w2 ⟨rfl, hb2⟩))
          have hb3 := below_then hb.drew hb2
          go_wp2_with fail
          go_ret
          exact RetB.mk hs.out.symm hb3
      · go_wp2_with fail
        go_ret
        exact RetB.mk (eqB_true (eq_of_takes ht.out (by omega) (by omega))).symm hb
  · have hn' : ((n : Int) != (n' : Int)) = true := by simp; omega
    have hd := Lib.hid (eqB_false (x := l) (y := l') (by rintro rfl; omega))
    go_enter Try.func86, Try.ntmps86
    go_wp2
    go_ret
    exact RetB.mk hd.out.symm (Below.refl _ _)
theorem lawsSzStmt (w : World) (lo hi : Nat) (x0 : Int) (x1 : Int) (A2 : Option Addr) (n2 c2 : Nat) (s2 : List Tok) (A3 : Option Addr) (n3 c3 : Nat) (s3 : List Int) (A4 : Option Addr) (n4 c4 : Nat) (s4 : List Int) (hA2 : Sl TokR w lo hi A2 n2 c2 s2) (h3 : Sl intR w lo hi A3 n3 c3 s3) (h4 : Sl intR w lo hi A4 n4 c4 s4) (hh : hi ≤ w.heap.size) (left : Int) (h1 : 0 ≤ left) (h2 : left ≤ 1048576) :
    Calls Try.prog 99 #[.agg #[.int .i64 x0, .int .i64 x1, .slice A2 n2 c2, .slice A3 n3 c3, .slice A4 n4 c4], .int .i64 left] w (RetSz left ((s2.length + s3.length + s4.length : Nat) : Int) w) := by
  go_enter Try.func99, Try.ntmps99
  go_wp2_with fail
  have j2 := hA2.lenEq
  refine (lawsSzTokS _ n2 c2 A2 left (by omega) (by omega) hA2.lenLe).mono ?_
  rintro e w2 ⟨r2, rfl, hr2, b2⟩
  obtain ⟨hc2, hf2⟩ := bcell b2
  have hz2 := b2.size
  try simp at hz2
  have hv2 : w.heap.size < w2.heap.size := by omega
  rcases hr2 with rfl | ⟨q2, t2⟩
  · go_wp2_with fail
    go_ret
    exact ⟨_, rfl, Or.inl rfl, by exact belA⟩
  have v2 := Lib.hid t2
  clear t2
  have u2 : r2 ≤ 1048576 := by have := v2.out; omega
  go_wp2_with fail
  have j3 := h3.lenEq
  refine (lawsSzIntS _ n3 c3 A3 r2 (by omega) (by omega) h3.lenLe).mono ?_
  rintro e w3 ⟨r3, rfl, hr3, b3⟩
  obtain ⟨hc3, hf3⟩ := bcell b3
  have hz3 := b3.size
  try simp at hz3
  have hv3 : w.heap.size < w3.heap.size := by omega
  rcases hr3 with rfl | ⟨q3, t3⟩
  · go_wp2_with fail
    go_ret
    exact ⟨_, rfl, Or.inl rfl, by exact belA⟩
  have v3 := Lib.hid t3
  clear t3
  have u3 : r3 ≤ 1048576 := by have := v3.out; omega
  go_wp2_with fail
  have j4 := h4.lenEq
  refine (lawsSzIntS _ n4 c4 A4 r3 (by omega) (by omega) h4.lenLe).mono ?_
  rintro e w4 ⟨r4, rfl, hr4, b4⟩
  obtain ⟨hc4, hf4⟩ := bcell b4
  have hz4 := b4.size
  try simp at hz4
  have hv4 : w.heap.size < w4.heap.size := by omega
  rcases hr4 with rfl | ⟨q4, t4⟩
  · go_wp2_with fail
    go_ret
    exact ⟨_, rfl, Or.inl rfl, by exact belA⟩
  have v4 := Lib.hid t4
  clear t4
  have u4 : r4 ≤ 1048576 := by have := v4.out; omega
  go_wp2_with fail
  go_ret
  exact ⟨_, rfl, Or.inr ⟨by omega, by have := v2.out; have := v3.out; have := v4.out; omega⟩, by exact belA⟩
theorem lawsSzStmtS (w : World) (lo hi n c : Nat) (A : Option Addr) (l : List Stmt) (h : Sl StmtR w lo hi A n c l) (hh : hi ≤ w.heap.size) (left : Int) (h1 : 0 ≤ left) (h2 : left ≤ 1048576) :
    Calls Try.prog 68 #[.slice A n c, .int .i64 left] w (RetSz left ((mszLStmt l : Nat) : Int) w) := by
  have e1 := h.lenEq
  have b1 := h.lenLe
  by_cases hn : (n : Int) ≤ left
  · go_enter Try.func68, Try.ntmps68
    go_wp2
    go_loopw [1, 5] (fun r i wr => ∃ k : Nat, k ≤ n ∧ i = .int .i64 k ∧ (∃ z : Int, r = .int .i64 z ∧ 0 ≤ z ∧ z ≤ 1048576 ∧ z = left - (n : Int) - (((l.take k).map mszStmt).sum : Nat)) ∧ Below w.heap.size w wr) (fun _ i _ => n - (intOf i).toNat)
    case atStart => exact ⟨0, Nat.zero_le _, rfl, ⟨_, rfl, by omega, by omega, by simp⟩, Below.refl _ _⟩
    case round =>
      obtain ⟨k, hk, rfl, ⟨z, rfl, z0, z1, zq⟩, hb⟩ := hrel
      have zq0 := zq
      clear zq
      have zq := Lib.hid zq0
      clear zq0
      have hbs := hb.size
      by_cases hlt : k < n
      · obtain ⟨b, o, x0, x1, A2, n2, c2, s2, A3, n3, c3, s3, A4, n4, c4, s4, rfl, _, _, hl0, i0, i1, h2, h3, h4, d0, d1, d2, d3, d4⟩ := Stmt_at (h.below hb hh) hlt
        have hsum := Lib.hid (sum_take_succ (f := mszStmt) (l := l) (k := k) (by omega))
        rw [hl0] at hsum
        clear hl0
        go_wp2_with fail
        refine (lawsSzStmt _ lo hi x0 x1 A2 n2 c2 s2 A3 n3 c3 s3 A4 n4 c4 s4 h2 h3 h4 (by omega) z z0 z1).mono ?_
        rintro e w2 ⟨r2, rfl, hr2, hb2⟩
        have hb3 := below_then hb hb2
        rcases hr2 with rfl | ⟨q2, t2⟩
        · go_wp2_with fail
          go_ret
          exact ⟨_, rfl, Or.inl rfl, hb3⟩
        · have v2 := Lib.hid t2
          clear t2
          have u2 : r2 ≤ 1048576 := by have := v2.out; omega
          have hq : r2 = left - (n : Int) - (((l.take (k + 1)).map mszStmt).sum : Nat) := by
            have a1 := v2.out; have a2 := zq.out; have a3 := hsum.out
            simp only [mszStmt] at a3; rw [a3]; omega
          have hq0 := hq
          clear hq
          have hq := Lib.hid hq0
          clear hq0
          go_wp2_with fail
          go_roundw
          case rel => exact ⟨k + 1, by omega, by go_num, ⟨_, rfl, q2, u2, hq.out⟩, hb3⟩
          case measure => simp [intOf]; omega
      · rw [List.take_of_length_le (by omega)] at zq
        go_wp2_with fail
        go_ret
        exact ⟨_, rfl, Or.inr ⟨z0, by have := zq.out; unfold mszLStmt; omega⟩, hb⟩
  · have hd : decide (left - (n : Int) < 0) = true := by simp; omega
    go_enter Try.func68, Try.ntmps68
    go_wp2
    go_ret
    exact ⟨_, rfl, Or.inl rfl, Below.refl _ _⟩
end Go.Proofs.Ytgoinmdnpaknpaa

/- slices.IndexFunc, slices.ContainsFunc over slices of Stmt. Printed by anygen.py. Walks. -/
set_option linter.unusedVariables false
set_option linter.unusedSimpArgs false
set_option maxRecDepth 100000
namespace Go.Proofs.Ytgoinmdnpaknpaa
open Go.RowKit

theorem idxFuncStmt (g : FuncId) (cap : Array Value) (p : Stmt → Bool) (w : World) (lo hi n c : Nat) (A : Option Addr) (l : List Stmt) (h : Sl StmtR w lo hi A n c l) (hh : hi ≤ w.heap.size)
    (eg : ∀ (args : Array Value) (w : World), (callFunc g args).run Try.prog w = .ok (.enter g args) w)
    (hp : ∀ (W : World) (x0 : Int) (x1 : Int) (A2 : Option Addr) (n2 c2 : Nat) (s2 : List Tok) (A3 : Option Addr) (n3 c3 : Nat) (s3 : List Int) (A4 : Option Addr) (n4 c4 : Nat) (s4 : List Int), (x0, x1, s2, s3, s4) ∈ l → Below w.heap.size w W → I64 x0 → I64 x1 → Sl TokR W lo hi A2 n2 c2 s2 → Sl intR W lo hi A3 n3 c3 s3 → Sl intR W lo hi A4 n4 c4 s4 → Calls Try.prog g (#[.agg #[.int .i64 x0, .int .i64 x1, .slice A2 n2 c2, .slice A3 n3 c3, .slice A4 n4 c4]] ++ cap) W (RetB (p (x0, x1, s2, s3, s4)) W)) :
    Calls Try.prog 110 #[.slice A n c, .func (.func g) #[] cap] w (RetIx (idxW p l) w) := by
  have e1 := h.lenEq
  have b1 := h.lenLe
  have HP := Lib.hid hp
  clear hp
  go_enter Try.func110, Try.ntmps110
  go_wp2
  go_loopw [8] (fun i wr => ∃ k : Nat, k ≤ n ∧ i = .int .i64 k ∧ (l.take k).any p = false ∧ Below w.heap.size w wr) (fun i _ => n - (intOf i).toNat)
  case atStart => exact ⟨0, Nat.zero_le _, rfl, rfl, Below.refl _ _⟩
  case round =>
    obtain ⟨k, hk, rfl, ht0, hb⟩ := hrel
    have ht := Lib.hid ht0
    clear ht0
    by_cases hlt : k < n
    · obtain ⟨b, o, x0, x1, A2, n2, c2, s2, A3, n3, c3, s3, A4, n4, c4, s4, rfl, _, _, hl0, i0, i1, h2, h3, h4, d0, d1, d2, d3, d4⟩ := Stmt_at (h.below hb hh) hlt
      have hmem : (x0, x1, s2, s3, s4) ∈ l := hl0 ▸ List.getElem_mem (l := l) (n := k) (by omega)
      have hok := Lib.hid (fun (hp : p (x0, x1, s2, s3, s4) = false) => any_take_succ (p := p) ht.out (by omega) (by rw [hl0]; exact hp))
      have hno := Lib.hid (fun (hp : p (x0, x1, s2, s3, s4) = true) => idxW_at (p := p) (l := l) (k := k) (by omega) ht.out (by rw [hl0]; exact hp))
      have HC := Lib.hid (fun W (hW : Below wr.heap.size wr W) => HP.out W x0 x1 A2 n2 c2 s2 A3 n3 c3 s3 A4 n4 c4 s4 hmem (below_then hb hW) i0 i1 (h2.below hW (by have := hb.size; omega)) (h3.below hW (by have := hb.size; omega)) (h4.below hW (by have := hb.size; omega)))
      clear hl0 hmem
      go_wp2_with fail
      refine (HC.out _ (by exact belA)).mono ?_
      rintro e w2 ⟨rfl, hb2⟩
      have hb3 := below_then hb (show Below wr.heap.size wr w2 by exact belA)
      clear HC
      by_cases hpx : p (x0, x1, s2, s3, s4) = true
      · have hs := Lib.hid (hno.out hpx)
        go_wp2_with fail
        go_ret
        exact ⟨rfl_ix hs.out.symm, hb3⟩
      · have hpx : p (x0, x1, s2, s3, s4) = false := by simpa using hpx
        have hs := Lib.hid (hok.out hpx)
        go_wp2_with fail
        go_roundw
        case rel => exact ⟨k + 1, by omega, by go_num, hs.out, hb3⟩
        case measure => simp [intOf]; omega
    · have hs := Lib.hid (idxW_none (p := p) (l := l) (by have := ht.out; rwa [List.take_of_length_le (by omega)] at this))
      go_wp2_with fail
      go_ret
      exact ⟨rfl_ix hs.out.symm, hb⟩
theorem conFuncStmt (g : FuncId) (cap : Array Value) (p : Stmt → Bool) (w : World) (lo hi n c : Nat) (A : Option Addr) (l : List Stmt) (h : Sl StmtR w lo hi A n c l) (hh : hi ≤ w.heap.size)
    (eg : ∀ (args : Array Value) (w : World), (callFunc g args).run Try.prog w = .ok (.enter g args) w)
    (hp : ∀ (W : World) (x0 : Int) (x1 : Int) (A2 : Option Addr) (n2 c2 : Nat) (s2 : List Tok) (A3 : Option Addr) (n3 c3 : Nat) (s3 : List Int) (A4 : Option Addr) (n4 c4 : Nat) (s4 : List Int), (x0, x1, s2, s3, s4) ∈ l → Below w.heap.size w W → I64 x0 → I64 x1 → Sl TokR W lo hi A2 n2 c2 s2 → Sl intR W lo hi A3 n3 c3 s3 → Sl intR W lo hi A4 n4 c4 s4 → Calls Try.prog g (#[.agg #[.int .i64 x0, .int .i64 x1, .slice A2 n2 c2, .slice A3 n3 c3, .slice A4 n4 c4]] ++ cap) W (RetB (p (x0, x1, s2, s3, s4)) W)) :
    Calls Try.prog 79 #[.slice A n c, .func (.func g) #[] cap] w (RetB (l.any p) w) := by
  have HP := Lib.hid hp
  have EG := Lib.hid eg
  have e1 := h.lenEq
  have b1 := h.lenLe
  clear hp eg
  have hq := Lib.hid (idxW_any p l)
  obtain ⟨v, hv0⟩ : ∃ v, v = idxW p l := ⟨_, rfl⟩
  have hv := Lib.hid hv0
  clear hv0
  go_enter Try.func79, Try.ntmps79
  go_wp2_with fail
  refine (idxFuncStmt g cap p _ lo hi n c A l h hh EG.out HP.out).mono ?_
  rintro e w2 ⟨rfl, hb⟩
  rw [← hv.out]
  go_wp2_with fail
  go_ret
  exact RetB.mk (by rw [← hq.out, ← hv.out]) hb
end Go.Proofs.Ytgoinmdnpaknpaa

/- Func: how it lies in cells; the laws' own helpers over it. Printed by typegen.py. Walks. -/
set_option linter.unusedVariables false
set_option linter.unusedSimpArgs false
set_option maxRecDepth 100000
namespace Go.Proofs.Ytgoinmdnpaknpaa
open Go.RowKit

abbrev Func := Int × Int × List Int × List Stmt
def FuncR : Rp Func := pairR intR (pairR intR (pairR (sliceR 3 intR) (sliceR 120 StmtR)))
def mszFunc (x : Func) : Nat := (x.2.2.1).length + mszLStmt x.2.2.2
def mszLFunc (l : List Func) : Nat := l.length + (l.map mszFunc).sum
theorem mszFunc_at {l : List Func} {k : Nat} (hk : k < l.length) : mszFunc l[k] ≤ mszLFunc l := by have := mem_sum_le (f := mszFunc) (List.getElem_mem hk); unfold mszLFunc; omega
theorem mszLFunc_len (l : List Func) : l.length ≤ mszLFunc l := by unfold mszLFunc; omega
theorem Func_rel {w : World} {lo hi : Nat} {cs : List Value} {x : Func} (h : FuncR.rel w lo hi cs x) : ∃ x0 x1 A2 n2 c2 s2 A3 n3 c3 s3, cs = ([.int .i64 x0, .int .i64 x1, .slice A2 n2 c2, .slice A3 n3 c3] : List Value) ∧ x = (x0, x1, s2, s3) ∧ I64 x0 ∧ I64 x1 ∧ Sl intR w lo hi A2 n2 c2 s2 ∧ Sl StmtR w lo hi A3 n3 c3 s3 := by
  obtain ⟨_, _, rfl, ⟨rfl, i0⟩, _, _, rfl, ⟨rfl, i1⟩, _, _, rfl, ⟨A2, n2, c2, rfl, h2⟩, ⟨A3, n3, c3, rfl, h3⟩⟩ := h
  exact ⟨x.1, x.2.1, A2, n2, c2, x.2.2.1, A3, n3, c3, x.2.2.2, rfl, rfl, i0, i1, h2, h3⟩
theorem Func_own {w : World} {x0 : Int} {x1 : Int} {A2 : Option Addr} {n2 c2 : Nat} {s2 : List Int} {A3 : Option Addr} {n3 c3 : Nat} {s3 : List Stmt} {F2 : List Nat} (o2 : OwnSl intR w 3 F2 (.slice A2 n2 c2) s2) {F3 : List Nat} (o3 : OwnSl StmtR w 120 F3 (.slice A3 n3 c3) s3) (i0 : I64 x0) (i1 : I64 x1) (hF : ((F2 ++ F3)).Nodup) : FuncR.own w ((F2 ++ F3)) [.int .i64 x0, .int .i64 x1, .slice A2 n2 c2, .slice A3 n3 c3] (x0, x1, s2, s3) := by
  have hF2 := hF; simp only [List.nodup_append] at hF2
  exact ⟨[_], [_, _, _], [], (F2 ++ F3), rfl, by simp, ⟨rfl, rfl, i0⟩, ⟨[_], [_, _], [], (F2 ++ F3), rfl, by simp, ⟨rfl, rfl, i1⟩, ⟨[_], [_], F2, F3, rfl, by simp, ⟨A2, n2, c2, rfl, o2⟩, ⟨A3, n3, c3, rfl, o3⟩, by simp_all [List.nodup_append]⟩, by simp_all [List.nodup_append]⟩, by simp_all [List.nodup_append]⟩
theorem Func_sl2 {w : World} {F : List Nat} {x0 : Int} {x1 : Int} {A2 : Option Addr} {n2 c2 : Nat} {s2 : List Int} {A3 : Option Addr} {n3 c3 : Nat} {s3 : List Stmt} (h : FuncR.own w F [.int .i64 x0, .int .i64 x1, .slice A2 n2 c2, .slice A3 n3 c3] (x0, x1, s2, s3)) : Sl intR w 0 w.heap.size A2 n2 c2 s2 := by
  have hr := FuncR.ownRel h (fun k hk => ⟨Nat.zero_le k, FuncR.ownLt h k hk⟩)
  obtain ⟨x0q, x1q, A2q, n2q, c2q, s2q, A3q, n3q, c3q, s3q, e, hx, i0, i1, h2, h3⟩ := Func_rel hr
  simp only [List.cons.injEq, Value.slice.injEq, Value.int.injEq, Value.bool.injEq, and_true, true_and, Prod.mk.injEq] at e hx
  simp only [e, hx]; exact h2
theorem Func_sl3 {w : World} {F : List Nat} {x0 : Int} {x1 : Int} {A2 : Option Addr} {n2 c2 : Nat} {s2 : List Int} {A3 : Option Addr} {n3 c3 : Nat} {s3 : List Stmt} (h : FuncR.own w F [.int .i64 x0, .int .i64 x1, .slice A2 n2 c2, .slice A3 n3 c3] (x0, x1, s2, s3)) : Sl StmtR w 0 w.heap.size A3 n3 c3 s3 := by
  have hr := FuncR.ownRel h (fun k hk => ⟨Nat.zero_le k, FuncR.ownLt h k hk⟩)
  obtain ⟨x0q, x1q, A2q, n2q, c2q, s2q, A3q, n3q, c3q, s3q, e, hx, i0, i1, h2, h3⟩ := Func_rel hr
  simp only [List.cons.injEq, Value.slice.injEq, Value.int.injEq, Value.bool.injEq, and_true, true_and, Prod.mk.injEq] at e hx
  simp only [e, hx]; exact h3
theorem Func_at {w : World} {lo hi : Nat} {A : Option Addr} {n c k : Nat} {l : List Func} (h : Sl FuncR w lo hi A n c l) (hk : k < n) :
    ∃ b off x0 x1 A2 n2 c2 s2 A3 n3 c3 s3, A = some ⟨b, off, none⟩ ∧ lo ≤ b ∧ b < hi ∧ l[k]'(by have := h.1; omega) = (x0, x1, s2, s3) ∧ I64 x0 ∧ I64 x1 ∧ Sl intR w lo hi A2 n2 c2 s2 ∧ Sl StmtR w lo hi A3 n3 c3 s3 ∧ w.cell? ⟨b, off + k * 4, none⟩ = some (.int .i64 x0) ∧ w.cell? ⟨b, off + k * 4 + 1, none⟩ = some (.int .i64 x1) ∧ w.cell? ⟨b, off + k * 4 + 2, none⟩ = some (.slice A2 n2 c2) ∧ w.cell? ⟨b, off + k * 4 + 3, none⟩ = some (.slice A3 n3 c3) := by
  obtain ⟨b, off, cs, rfl, hb1, hb2, hr, hc⟩ := h.at_ hk
  obtain ⟨x0, x1, A2, n2, c2, s2, A3, n3, c3, s3, rfl, hx, i0, i1, h2, h3⟩ := Func_rel hr
  exact ⟨b, off, x0, x1, A2, n2, c2, s2, A3, n3, c3, s3, rfl, hb1, hb2, hx, i0, i1, h2, h3, hc 0 (by simp), hc 1 (by simp), hc 2 (by simp), hc 3 (by simp)⟩
theorem rdFunc : Rd Try.prog 82 FuncR := rd_struct Try.underlying82 (by kernel_rfl) (rdF_cons rfl (by kernel_rfl) (rd_int Try.underlying3) (rdF_cons rfl (by kernel_rfl) (rd_int Try.underlying3) (rdF_cons rfl (by kernel_rfl) rdInts (rdF_one rfl (by kernel_rfl) rdStmts) (by decide)) (by decide)) (by decide))
theorem rdFuncs : Rd Try.prog 34 (sliceR 97 FuncR) := rd_slice Try.underlying34 (by kernel_rfl) (by decide) rdFunc
def RetToFunc (x0 : Int) (x1 : Int) (s2 : List Int) (s3 : List Stmt) (w : World) (e : Ending) (w' : World) : Prop :=
  ∃ F A2 n2 c2 A3 n3 c3, e = .returned (.agg #[.int .i64 x0, .int .i64 x1, .slice A2 n2 c2, .slice A3 n3 c3]) ∧ FuncR.own w' F [.int .i64 x0, .int .i64 x1, .slice A2 n2 c2, .slice A3 n3 c3] (x0, x1, s2, s3) ∧ (∀ k, k ∈ F → w.heap.size ≤ k) ∧ Below w.heap.size w w'
theorem lawsToFunc (w : World) (lo hi : Nat) (x0 : Int) (x1 : Int) (A2 : Option Addr) (n2 c2 : Nat) (s2 : List Int) (A3 : Option Addr) (n3 c3 : Nat) (s3 : List Stmt) (h2 : Sl intR w lo hi A2 n2 c2 s2) (h3 : Sl StmtR w lo hi A3 n3 c3 s3) (hh : hi ≤ w.heap.size) (m2 : s2.length ≤ 1048576) (m3 : mszLStmt s3 ≤ 1048576) (i0 : I64 x0) (i1 : I64 x1) :
    Calls Try.prog 55 #[.agg #[.int .i64 x0, .int .i64 x1, .slice A2 n2 c2, .slice A3 n3 c3]] w (RetToFunc x0 x1 s2 s3 w) := by
  go_enter Try.func55, Try.ntmps55
  go_wp2_with fail
  refine (lawsToIntS _ lo hi n2 c2 A2 s2 (h2.below (B := w.heap.size) (by exact belA) hh) (by first | omega | (simp; omega)) (by have := h2.lenEq; omega)).mono ?_
  rintro e w2 ⟨F2, A2', n2', c2', rfl, o2, f2, b2⟩
  obtain ⟨hc2, hf2⟩ := bcell b2
  have hz2 := b2.size
  try simp at hz2
  have hv2 : w.heap.size < w2.heap.size := by omega
  have hx2 : w.heap.size + 1 < w2.heap.size := by omega
  have hy2 : w.heap.size + 1 + 1 < w2.heap.size := by omega
  have g2 : ∀ k, k ∈ F2 → w.heap.size + 3 ≤ k := fun k hk => by have := f2 k hk; simp at this; omega
  have l2 := o2.lt
  go_wp2_with fail
  refine (lawsToStmtS _ lo hi n3 c3 A3 s3 (h3.below (B := w.heap.size) (by exact belA) hh) (by first | omega | (simp; omega)) m3).mono ?_
  rintro e w3 ⟨F3, A3', n3', c3', rfl, o3, f3, b3⟩
  obtain ⟨hc3, hf3⟩ := bcell b3
  have hz3 := b3.size
  try simp at hz3
  have hv3 : w.heap.size < w3.heap.size := by omega
  have hx3 : w.heap.size + 1 < w3.heap.size := by omega
  have hy3 : w.heap.size + 1 + 1 < w3.heap.size := by omega
  have g3 : ∀ k, k ∈ F3 → w2.heap.size ≤ k := fun k hk => by have := f3 k hk; simp at this; omega
  have l3 := o3.lt
  go_wp2_with fail
  refine bodyPost_ret (v := .agg #[.int .i64 x0, .int .i64 x1, .slice A2' n2' c2', .slice A3' n3' c3']) (by simp [results, Try.results55, go_sem, hc2, hf2, hv2, hx2, hy2, hc3, hf3, hv3, hx3, hy3]) rfl ?_
  have k2 := fun (W : World) (hW : Fr [w.heap.size, w.heap.size + 1, w.heap.size + 1 + 1] w2 W) => o2.fr hW (fun k hk hk' => by have := g2 k hk; simp at hk'; omega)
  have k3 := fun (W : World) (hW : Fr [w.heap.size, w.heap.size + 1, w.heap.size + 1 + 1] w3 W) => o3.fr hW (fun k hk hk' => by have := g3 k hk; simp at hk'; omega)
  exact ⟨_, A2', n2', c2', A3', n3', c3', rfl, Func_own (k2 _ (by exact frcA)) (k3 _ (by exact frcA)) i0 i1 (nodup_app o2.nodup o3.nodup l2 (fun k hk => by have := g3 k hk; omega)), fun k hk => by (simp only [List.mem_append] at hk; rcases hk with hk | hk; all_goals first | (have := g2 k hk; omega) | (have := g3 k hk; omega)), by exact belA⟩
theorem Try.infoFunc : (Try.prog.info? 97).map (fun i => (i.zero, i.size, i.bytes)) = some (some (.agg #[.int .i64 0, .int .i64 0, .slice none 0 0, .slice none 0 0]), 4, 64) := by kernel_rfl
theorem lawsToFuncS (w : World) (lo hi n c : Nat) (A : Option Addr) (l : List Func) (h : Sl FuncR w lo hi A n c l) (hh : hi ≤ w.heap.size) (hm : mszLFunc l ≤ 1048576) :
    Calls Try.prog 40 #[.slice A n c] w (RetOwn FuncR 97 l w) := by
  have e1 := h.lenEq
  have hn : n ≤ 1048576 := by have := mszLFunc_len l; omega
  obtain ⟨inf, hif, hz0, hz1, hz2⟩ := info_parts Try.infoFunc
  go_enter Try.func40, Try.ntmps40
  go_wp2_with (at_make; refine wpList_make_full _ rfl _ _ 41 rfl 0 97 inf (.agg #[.int .i64 0, .int .i64 0, .slice none 0 0, .slice none 0 0]) 4 Try.underlying41 hif hz0 hz1 _ _ _ _ n rfl rfl rfl rfl (by rw [hz2]; omega) (by unfold maxLen; omega) (Nat.zero_le _) ?_)
  intro w1 hown hg
  have hF := Fill.start (R := FuncR) hown
  have hb0 : Below w.heap.size w w1 := (Below.refl _ _).grown hg (Nat.le_refl _) (fun k hk => by cases hk)
  clear hown hg
  go_wp2
  go_loopw [4] (fun i wr => ∃ (k : Nat) (F : List Nat), k ≤ n ∧ i = .int .i64 k ∧ Fill FuncR wr 97 F w.heap.size n (l.take k) ∧ (∀ j, j ∈ F → w.heap.size ≤ j) ∧ Below w.heap.size w wr) (fun i _ => n - (intOf i).toNat)
  case atStart => exact ⟨0, _, Nat.zero_le _, rfl, hF, by simp, hb0⟩
  case round =>
    obtain ⟨k, F, hk, rfl, hF, hge, hb⟩ := hrel
    by_cases hlt : k < n
    · obtain ⟨b, o, x0, x1, A2, n2, c2, s2, A3, n3, c3, s3, rfl, _, _, hl0, i0, i1, h2, h3, d0, d1, d2, d3⟩ := Func_at (h.below hb hh) hlt
      have hmk := mszFunc_at (l := l) (k := k) (by omega)
      rw [hl0] at hmk
      simp only [mszFunc] at hmk
      have hl := Lib.hid hl0
      clear hl0
      have hbs := hb.size
      go_wp2_with fail
      refine (lawsToFunc _ lo hi x0 x1 A2 n2 c2 s2 A3 n3 c3 s3 h2 h3 (by omega) (by omega) (by omega) i0 i1).mono ?_
      rintro e w2 ⟨Fx, A2', n2', c2', A3', n3', c3', rfl, hox, hfx, hb2⟩
      have hF2 := hF.below hb2
      have hlk : (l.take k).length = k := by simp; omega
      obtain ⟨u0, hu0⟩ : ∃ u, w2.cell? ⟨w.heap.size, k * 4, none⟩ = some u := hF2.cell' hlk hlt (j := 0) (by decide)
      obtain ⟨u1, hu1⟩ : ∃ u, w2.cell? ⟨w.heap.size, k * 4 + 1, none⟩ = some u := hF2.cell' hlk hlt (j := 1) (by decide)
      obtain ⟨u2, hu2⟩ : ∃ u, w2.cell? ⟨w.heap.size, k * 4 + 2, none⟩ = some u := hF2.cell' hlk hlt (j := 2) (by decide)
      obtain ⟨u3, hu3⟩ : ∃ u, w2.cell? ⟨w.heap.size, k * 4 + 3, none⟩ = some u := hF2.cell' hlk hlt (j := 3) (by decide)
      have f0 := hF2.frozen (k * 4)
      have f1 := hF2.frozen (k * 4 + 1)
      have f2 := hF2.frozen (k * 4 + 2)
      have f3 := hF2.frozen (k * 4 + 3)
      have hst := hF2.step' (Fx := Fx) (cs := [.int .i64 x0, .int .i64 x1, .slice A2' n2' c2', .slice A3' n3' c3']) e1 hlt (by rw [hl.out]; exact hox) (fun i h1 h2 => by have := hfx i h1; have := hF.lt i h2; omega)
      have hb3 := below_setCells w.heap.size (Nat.le_refl _) [.int .i64 x0, .int .i64 x1, .slice A2' n2' c2', .slice A3' n3' c3'] (k * 4) w2 (below_then hb hb2)
      have hge2 : ∀ j, j ∈ F ++ Fx → w.heap.size ≤ j := fun j hj => by
        rcases List.mem_append.1 hj with hj | hj
        · exact hge j hj
        · have := hfx j hj; omega
      go_wp2
      go_roundw
      case rel => exact ⟨k + 1, _, by omega, by go_num, hst, hge2, hb3⟩
      case measure => simp [intOf]; omega
    · go_wp2
      go_ret
      exact RetOwn.mk rfl (hF.all e1 (by omega)) hge hb
theorem lawsEqFunc (w : World) (lo hi lo' hi' : Nat) (x0 : Int) (x1 : Int) (A2 : Option Addr) (n2 c2 : Nat) (s2 : List Int) (A3 : Option Addr) (n3 c3 : Nat) (s3 : List Stmt) (x0' : Int) (x1' : Int) (A2' : Option Addr) (n2' c2' : Nat) (s2' : List Int) (A3' : Option Addr) (n3' c3' : Nat) (s3' : List Stmt) (h2 : Sl intR w lo hi A2 n2 c2 s2) (h3 : Sl StmtR w lo hi A3 n3 c3 s3) (h2' : Sl intR w lo' hi' A2' n2' c2' s2') (h3' : Sl StmtR w lo' hi' A3' n3' c3' s3') (hh : hi ≤ w.heap.size) (hh' : hi' ≤ w.heap.size) :
    Calls Try.prog 61 #[.agg #[.int .i64 x0, .int .i64 x1, .slice A2 n2 c2, .slice A3 n3 c3], .agg #[.int .i64 x0', .int .i64 x1', .slice A2' n2' c2', .slice A3' n3' c3']] w (RetB (eqB (x0, x1, s2, s3) (x0', x1', s2', s3')) w) := by
  go_enter Try.func61, Try.ntmps61
  go_wp2_with fail
  all_goals try (go_ret; exact RetB.mk (by simp_all [eqB]) (by exact belA))
  refine (lawsEqIntS _ lo hi lo' hi' n2 n2' c2 c2' A2 A2' s2 s2' (h2.below (B := w.heap.size) (by exact belA) hh) (h2'.below (B := w.heap.size) (by exact belA) hh') (by first | omega | (simp; omega)) (by first | omega | (simp; omega))).mono ?_
  rintro e w2 ⟨rfl, b2⟩
  obtain ⟨hc2, hf2⟩ := bcell b2
  have hz2 := b2.size
  try simp at hz2
  have hv2 : w.heap.size < w2.heap.size := by omega
  have hx2 : w.heap.size + 1 < w2.heap.size := by omega
  go_wp2_with fail
  all_goals try (go_ret; exact RetB.mk (by simp_all [eqB]) (by exact belA))
  refine (lawsEqStmtS _ lo hi lo' hi' n3 n3' c3 c3' A3 A3' s3 s3' (h3.below (B := w.heap.size) (by exact belA) hh) (h3'.below (B := w.heap.size) (by exact belA) hh') (by first | omega | (simp; omega)) (by first | omega | (simp; omega))).mono ?_
  rintro e w3 ⟨rfl, b3⟩
  obtain ⟨hc3, hf3⟩ := bcell b3
  have hz3 := b3.size
  try simp at hz3
  have hv3 : w.heap.size < w3.heap.size := by omega
  have hx3 : w.heap.size + 1 < w3.heap.size := by omega
  go_wp2_with fail
  all_goals (go_ret; exact RetB.mk (by simp_all [eqB]) (by exact belA))
theorem lawsEqFuncS (w : World) (lo hi lo' hi' n n' c c' : Nat) (A A' : Option Addr) (l l' : List Func) (h : Sl FuncR w lo hi A n c l) (h' : Sl FuncR w lo' hi' A' n' c' l') (hh : hi ≤ w.heap.size) (hh' : hi' ≤ w.heap.size) :
    Calls Try.prog 43 #[.slice A n c, .slice A' n' c'] w (RetB (eqB l l') w) := by
  have e1 := h.lenEq
  have e2 := h'.lenEq
  have b1 := h.lenLe
  have b2 := h'.lenLe
  by_cases hn : n = n'
  · subst hn
    have hn' : ((n : Int) != (n : Int)) = false := by simp
    go_enter Try.func43, Try.ntmps43
    go_wp2
    go_loopw [5] (fun i wr => ∃ k : Nat, k ≤ n ∧ i = .int .i64 k ∧ l.take k = l'.take k ∧ Below w.heap.size w wr) (fun i _ => n - (intOf i).toNat)
    case atStart => exact ⟨0, Nat.zero_le _, rfl, rfl, Below.refl _ _⟩
    case round =>
      obtain ⟨k, hk, rfl, ht0, hb⟩ := hrel
      have ht := Lib.hid ht0
      clear ht0
      have hbs := hb.size
      by_cases hlt : k < n
      · obtain ⟨b, o, x0, x1, A2, n2, c2, s2, A3, n3, c3, s3, rfl, _, _, hl0, i0, i1, h2, h3, d0, d1, d2, d3⟩ := Func_at (h.below hb hh) hlt
        obtain ⟨b', o', x0', x1', A2', n2', c2', s2', A3', n3', c3', s3', rfl, _, _, hl0', i0', i1', h2', h3', d0', d1', d2', d3'⟩ := Func_at (h'.below hb hh') hlt
        have hl := Lib.hid hl0
        have hl' := Lib.hid hl0'
        clear hl0 hl0'
        have hst := Lib.hid (fun (he : l[k]'(by omega) = l'[k]'(by omega)) => take_eq_snoc ht.out (by omega) (by omega) he)
        have hne := Lib.hid (fun (he : ¬ l[k]'(by omega) = l'[k]'(by omega)) => ne_of_at (by omega) (by omega) he)
        by_cases he0 : (x0, x1, s2, s3) = (x0', x1', s2', s3')
        · have hd := eqB_true he0
          have hs := Lib.hid (hst.out (by rw [hl.out, hl'.out, he0]))
          clear he0
          go_wp2_with fail
          go_region_held3 (fun w' => w'.cell? ⟨b, o + k * 4, none⟩ = some (.int .i64 x0) ∧ w'.cell? ⟨b, o + k * 4 + 1, none⟩ = some (.int .i64 x1) ∧ w'.cell? ⟨b, o + k * 4 + 2, none⟩ = some (.slice A2 n2 c2) ∧ w'.cell? ⟨b, o + k * 4 + 3, none⟩ = some (.slice A3 n3 c3) ∧ w'.cell? ⟨b', o' + k * 4, none⟩ = some (.int .i64 x0') ∧ w'.cell? ⟨b', o' + k * 4 + 1, none⟩ = some (.int .i64 x1') ∧ w'.cell? ⟨b', o' + k * 4 + 2, none⟩ = some (.slice A2' n2' c2') ∧ w'.cell? ⟨b', o' + k * 4 + 3, none⟩ = some (.slice A3' n3' c3')) (first | exact ⟨d0, d1, d2, d3, d0', d1', d2', d3'⟩ | exact ⟨below_cell hb2 d0, below_cell hb2 d1, below_cell hb2 d2, below_cell hb2 d3, below_cell hb2 d0', below_cell hb2 d1', below_cell hb2 d2', below_cell hb2 d3'⟩)
            (first | (go_at_call 61; refine (lawsEqFunc _ lo hi lo' hi' x0 x1 A2 n2 c2 s2 A3 n3 c3 s3 x0' x1' A2' n2' c2' s2' A3' n3' c3' s3' h2.drew h3.drew h2'.drew h3'.drew (by first | omega | (simp; omega)) (by first | omega | (simp; omega))).mono ?_; rintro e w2 ⟨rfl, hb2⟩))
          have hb3 := below_then hb.drew hb2
          go_wp2_with fail
          go_roundw
          case rel => exact ⟨k + 1, by omega, by go_num, hs.out, hb3⟩
          case measure => simp [intOf]; omega
        · have hd := eqB_false he0
          have hs := Lib.hid (eqB_false (hne.out (by rw [hl.out, hl'.out]; exact he0)))
          clear he0
          go_wp2_with fail
          go_region_held3 (fun w' => w'.cell? ⟨b, o + k * 4, none⟩ = some (.int .i64 x0) ∧ w'.cell? ⟨b, o + k * 4 + 1, none⟩ = some (.int .i64 x1) ∧ w'.cell? ⟨b, o + k * 4 + 2, none⟩ = some (.slice A2 n2 c2) ∧ w'.cell? ⟨b, o + k * 4 + 3, none⟩ = some (.slice A3 n3 c3) ∧ w'.cell? ⟨b', o' + k * 4, none⟩ = some (.int .i64 x0') ∧ w'.cell? ⟨b', o' + k * 4 + 1, none⟩ = some (.int .i64 x1') ∧ w'.cell? ⟨b', o' + k * 4 + 2, none⟩ = some (.slice A2' n2' c2') ∧ w'.cell? ⟨b', o' + k * 4 + 3, none⟩ = some (.slice A3' n3' c3')) (first | exact ⟨d0, d1, d2, d3, d0', d1', d2', d3'⟩ | exact ⟨below_cell hb2 d0, below_cell hb2 d1, below_cell hb2 d2, below_cell hb2 d3, below_cell hb2 d0', below_cell hb2 d1', below_cell hb2 d2', below_cell hb2 d3'⟩)
            (first | (go_at_call 61; refine (lawsEqFunc _ lo hi lo' hi' x0 x1 A2 n2 c2 s2 A3 n3 c3 s3 x0' x1' A2' n2' c2' s2' A3' n3' c3' s3' h2.drew h3.drew h2'.drew h3'.drew (by first | omega | (simp; omega)) (by first | omega | (simp; omega))).mono ?_; rintro e w2 ⟨rfl, hb2⟩))
          have hb3 := below_then hb.drew hb2
          go_wp2_with fail
          go_ret
          exact RetB.mk hs.out.symm hb3
      · go_wp2_with fail
        go_ret
        exact RetB.mk (eqB_true (eq_of_takes ht.out (by omega) (by omega))).symm hb
  · have hn' : ((n : Int) != (n' : Int)) = true := by simp; omega
    have hd := Lib.hid (eqB_false (x := l) (y := l') (by rintro rfl; omega))
    go_enter Try.func43, Try.ntmps43
    go_wp2
    go_ret
    exact RetB.mk hd.out.symm (Below.refl _ _)
theorem lawsSzFunc (w : World) (lo hi : Nat) (x0 : Int) (x1 : Int) (A2 : Option Addr) (n2 c2 : Nat) (s2 : List Int) (A3 : Option Addr) (n3 c3 : Nat) (s3 : List Stmt) (hA2 : Sl intR w lo hi A2 n2 c2 s2) (h3 : Sl StmtR w lo hi A3 n3 c3 s3) (hh : hi ≤ w.heap.size) (left : Int) (h1 : 0 ≤ left) (h2 : left ≤ 1048576) :
    Calls Try.prog 51 #[.agg #[.int .i64 x0, .int .i64 x1, .slice A2 n2 c2, .slice A3 n3 c3], .int .i64 left] w (RetSz left ((s2.length + mszLStmt s3 : Nat) : Int) w) := by
  go_enter Try.func51, Try.ntmps51
  go_wp2_with fail
  have j2 := hA2.lenEq
  refine (lawsSzIntS _ n2 c2 A2 left (by omega) (by omega) hA2.lenLe).mono ?_
  rintro e w2 ⟨r2, rfl, hr2, b2⟩
  obtain ⟨hc2, hf2⟩ := bcell b2
  have hz2 := b2.size
  try simp at hz2
  have hv2 : w.heap.size < w2.heap.size := by omega
  rcases hr2 with rfl | ⟨q2, t2⟩
  · go_wp2_with fail
    go_ret
    exact ⟨_, rfl, Or.inl rfl, by exact belA⟩
  have v2 := Lib.hid t2
  clear t2
  have u2 : r2 ≤ 1048576 := by have := v2.out; omega
  go_wp2_with fail
  refine (lawsSzStmtS _ lo hi n3 c3 A3 s3 (h3.below (B := w.heap.size) (by exact belA) hh) (by first | omega | (simp; omega)) r2 (by omega) (by omega)).mono ?_
  rintro e w3 ⟨r3, rfl, hr3, b3⟩
  obtain ⟨hc3, hf3⟩ := bcell b3
  have hz3 := b3.size
  try simp at hz3
  have hv3 : w.heap.size < w3.heap.size := by omega
  rcases hr3 with rfl | ⟨q3, t3⟩
  · go_wp2_with fail
    go_ret
    exact ⟨_, rfl, Or.inl rfl, by exact belA⟩
  have v3 := Lib.hid t3
  clear t3
  have u3 : r3 ≤ 1048576 := by have := v3.out; omega
  go_wp2_with fail
  go_ret
  exact ⟨_, rfl, Or.inr ⟨by omega, by have := v2.out; have := v3.out; omega⟩, by exact belA⟩
theorem lawsSzFuncS (w : World) (lo hi n c : Nat) (A : Option Addr) (l : List Func) (h : Sl FuncR w lo hi A n c l) (hh : hi ≤ w.heap.size) (left : Int) (h1 : 0 ≤ left) (h2 : left ≤ 1048576) :
    Calls Try.prog 37 #[.slice A n c, .int .i64 left] w (RetSz left ((mszLFunc l : Nat) : Int) w) := by
  have e1 := h.lenEq
  have b1 := h.lenLe
  by_cases hn : (n : Int) ≤ left
  · go_enter Try.func37, Try.ntmps37
    go_wp2
    go_loopw [1, 5] (fun r i wr => ∃ k : Nat, k ≤ n ∧ i = .int .i64 k ∧ (∃ z : Int, r = .int .i64 z ∧ 0 ≤ z ∧ z ≤ 1048576 ∧ z = left - (n : Int) - (((l.take k).map mszFunc).sum : Nat)) ∧ Below w.heap.size w wr) (fun _ i _ => n - (intOf i).toNat)
    case atStart => exact ⟨0, Nat.zero_le _, rfl, ⟨_, rfl, by omega, by omega, by simp⟩, Below.refl _ _⟩
    case round =>
      obtain ⟨k, hk, rfl, ⟨z, rfl, z0, z1, zq⟩, hb⟩ := hrel
      have zq0 := zq
      clear zq
      have zq := Lib.hid zq0
      clear zq0
      have hbs := hb.size
      by_cases hlt : k < n
      · obtain ⟨b, o, x0, x1, A2, n2, c2, s2, A3, n3, c3, s3, rfl, _, _, hl0, i0, i1, h2, h3, d0, d1, d2, d3⟩ := Func_at (h.below hb hh) hlt
        have hsum := Lib.hid (sum_take_succ (f := mszFunc) (l := l) (k := k) (by omega))
        rw [hl0] at hsum
        clear hl0
        go_wp2_with fail
        refine (lawsSzFunc _ lo hi x0 x1 A2 n2 c2 s2 A3 n3 c3 s3 h2 h3 (by omega) z z0 z1).mono ?_
        rintro e w2 ⟨r2, rfl, hr2, hb2⟩
        have hb3 := below_then hb hb2
        rcases hr2 with rfl | ⟨q2, t2⟩
        · go_wp2_with fail
          go_ret
          exact ⟨_, rfl, Or.inl rfl, hb3⟩
        · have v2 := Lib.hid t2
          clear t2
          have u2 : r2 ≤ 1048576 := by have := v2.out; omega
          have hq : r2 = left - (n : Int) - (((l.take (k + 1)).map mszFunc).sum : Nat) := by
            have a1 := v2.out; have a2 := zq.out; have a3 := hsum.out
            simp only [mszFunc] at a3; rw [a3]; omega
          have hq0 := hq
          clear hq
          have hq := Lib.hid hq0
          clear hq0
          go_wp2_with fail
          go_roundw
          case rel => exact ⟨k + 1, by omega, by go_num, ⟨_, rfl, q2, u2, hq.out⟩, hb3⟩
          case measure => simp [intOf]; omega
      · rw [List.take_of_length_le (by omega)] at zq
        go_wp2_with fail
        go_ret
        exact ⟨_, rfl, Or.inr ⟨z0, by have := zq.out; unfold mszLFunc; omega⟩, hb⟩
  · have hd : decide (left - (n : Int) < 0) = true := by simp; omega
    go_enter Try.func37, Try.ntmps37
    go_wp2
    go_ret
    exact ⟨_, rfl, Or.inl rfl, Below.refl _ _⟩
end Go.Proofs.Ytgoinmdnpaknpaa

/- Prog: how it lies in cells; the laws' own helpers over it. Printed by typegen.py. Walks. -/
set_option linter.unusedVariables false
set_option linter.unusedSimpArgs false
set_option maxRecDepth 100000
namespace Go.Proofs.Ytgoinmdnpaknpaa
open Go.RowKit

abbrev Prog := List Func
def ProgR : Rp Prog := sliceR 97 FuncR
def mszProg (x : Prog) : Nat := mszLFunc x
def mszLProg (l : List Prog) : Nat := l.length + (l.map mszProg).sum
theorem mszProg_at {l : List Prog} {k : Nat} (hk : k < l.length) : mszProg l[k] ≤ mszLProg l := by have := mem_sum_le (f := mszProg) (List.getElem_mem hk); unfold mszLProg; omega
theorem mszLProg_len (l : List Prog) : l.length ≤ mszLProg l := by unfold mszLProg; omega
theorem Prog_rel {w : World} {lo hi : Nat} {cs : List Value} {x : Prog} (h : ProgR.rel w lo hi cs x) : ∃ A0 n0 c0 s0, cs = ([.slice A0 n0 c0] : List Value) ∧ x = s0 ∧ Sl FuncR w lo hi A0 n0 c0 s0 := by
  obtain ⟨A0, n0, c0, rfl, h0⟩ := h
  exact ⟨A0, n0, c0, x, rfl, rfl, h0⟩
theorem Prog_own {w : World} {A0 : Option Addr} {n0 c0 : Nat} {s0 : List Func} {F0 : List Nat} (o0 : OwnSl FuncR w 97 F0 (.slice A0 n0 c0) s0)  (hF : (F0).Nodup) : ProgR.own w (F0) [.slice A0 n0 c0] s0 := by
  exact ⟨A0, n0, c0, rfl, o0⟩
theorem Prog_sl0 {w : World} {F : List Nat} {A0 : Option Addr} {n0 c0 : Nat} {s0 : List Func} (h : ProgR.own w F [.slice A0 n0 c0] s0) : Sl FuncR w 0 w.heap.size A0 n0 c0 s0 := by
  have hr := ProgR.ownRel h (fun k hk => ⟨Nat.zero_le k, ProgR.ownLt h k hk⟩)
  obtain ⟨A0q, n0q, c0q, s0q, e, hx, h0⟩ := Prog_rel hr
  simp only [List.cons.injEq, Value.slice.injEq, Value.int.injEq, Value.bool.injEq, and_true, true_and] at e hx
  simp only [e, hx]; exact h0
theorem Prog_at {w : World} {lo hi : Nat} {A : Option Addr} {n c k : Nat} {l : List Prog} (h : Sl ProgR w lo hi A n c l) (hk : k < n) :
    ∃ b off A0 n0 c0 s0, A = some ⟨b, off, none⟩ ∧ lo ≤ b ∧ b < hi ∧ l[k]'(by have := h.1; omega) = s0 ∧ Sl FuncR w lo hi A0 n0 c0 s0 ∧ w.cell? ⟨b, off + k, none⟩ = some (.slice A0 n0 c0) := by
  obtain ⟨b, off, cs, rfl, hb1, hb2, hr, hc⟩ := h.at_ hk
  obtain ⟨A0, n0, c0, s0, rfl, hx, h0⟩ := Prog_rel hr
  have h0c := hc 0 (by simp)
  simp only [show ProgR.size = 1 from rfl, Nat.mul_one, Nat.add_zero] at h0c
  exact ⟨b, off, A0, n0, c0, s0, rfl, hb1, hb2, hx, h0, h0c⟩
theorem rdProg : Rd Try.prog 36 ProgR := rd_struct Try.underlying36 (by kernel_rfl) (rdF_one rfl (by kernel_rfl) rdFuncs)
def RetToProg (s0 : List Func) (w : World) (e : Ending) (w' : World) : Prop :=
  ∃ F A0 n0 c0, e = .returned (.agg #[.slice A0 n0 c0]) ∧ ProgR.own w' F [.slice A0 n0 c0] s0 ∧ (∀ k, k ∈ F → w.heap.size ≤ k) ∧ Below w.heap.size w w'
theorem lawsToProg (w : World) (lo hi : Nat) (A0 : Option Addr) (n0 c0 : Nat) (s0 : List Func) (h0 : Sl FuncR w lo hi A0 n0 c0 s0) (hh : hi ≤ w.heap.size) (m0 : mszLFunc s0 ≤ 1048576)  :
    Calls Try.prog 17 #[.agg #[.slice A0 n0 c0]] w (RetToProg s0 w) := by
  go_enter Try.func17, Try.ntmps17
  go_wp2_with fail
  refine (lawsToFuncS _ lo hi n0 c0 A0 s0 (h0.below (B := w.heap.size) (by exact belA) hh) (by first | omega | (simp; omega)) m0).mono ?_
  rintro e w0 ⟨F0, A0', n0', c0', rfl, o0, f0, b0⟩
  obtain ⟨hc0, hf0⟩ := bcell b0
  have hz0 := b0.size
  try simp at hz0
  have hv0 : w.heap.size < w0.heap.size := by omega
  have hx0 : w.heap.size + 1 < w0.heap.size := by omega
  have hy0 : w.heap.size + 1 + 1 < w0.heap.size := by omega
  have g0 : ∀ k, k ∈ F0 → w.heap.size + 3 ≤ k := fun k hk => by have := f0 k hk; simp at this; omega
  have l0 := o0.lt
  go_wp2_with fail
  refine bodyPost_ret (v := .agg #[.slice A0' n0' c0']) (by simp [results, Try.results17, go_sem, hc0, hf0, hv0, hx0, hy0]) rfl ?_
  have k0 := fun (W : World) (hW : Fr [w.heap.size, w.heap.size + 1, w.heap.size + 1 + 1] w0 W) => o0.fr hW (fun k hk hk' => by have := g0 k hk; simp at hk'; omega)
  exact ⟨_, A0', n0', c0', rfl, Prog_own (k0 _ (by exact frcA))  o0.nodup, fun k hk => by have := g0 k hk; omega, by exact belA⟩
theorem lawsEqProg (w : World) (lo hi lo' hi' : Nat) (A0 : Option Addr) (n0 c0 : Nat) (s0 : List Func) (A0' : Option Addr) (n0' c0' : Nat) (s0' : List Func) (h0 : Sl FuncR w lo hi A0 n0 c0 s0) (h0' : Sl FuncR w lo' hi' A0' n0' c0' s0') (hh : hi ≤ w.heap.size) (hh' : hi' ≤ w.heap.size) :
    Calls Try.prog 20 #[.agg #[.slice A0 n0 c0], .agg #[.slice A0' n0' c0']] w (RetB (eqB s0 s0') w) := by
  go_enter Try.func20, Try.ntmps20
  go_wp2_with fail
  all_goals try (go_ret; exact RetB.mk (by simp_all [eqB]) (by exact belA))
  refine (lawsEqFuncS _ lo hi lo' hi' n0 n0' c0 c0' A0 A0' s0 s0' (h0.below (B := w.heap.size) (by exact belA) hh) (h0'.below (B := w.heap.size) (by exact belA) hh') (by first | omega | (simp; omega)) (by first | omega | (simp; omega))).mono ?_
  rintro e w0 ⟨rfl, b0⟩
  obtain ⟨hc0, hf0⟩ := bcell b0
  have hz0 := b0.size
  try simp at hz0
  have hv0 : w.heap.size < w0.heap.size := by omega
  have hx0 : w.heap.size + 1 < w0.heap.size := by omega
  go_wp2_with fail
  all_goals (go_ret; exact RetB.mk (by simp_all [eqB]) (by exact belA))
theorem lawsSzProg (w : World) (lo hi : Nat) (A0 : Option Addr) (n0 c0 : Nat) (s0 : List Func) (h0 : Sl FuncR w lo hi A0 n0 c0 s0) (hh : hi ≤ w.heap.size) (left : Int) (h1 : 0 ≤ left) (h2 : left ≤ 1048576) :
    Calls Try.prog 15 #[.agg #[.slice A0 n0 c0], .int .i64 left] w (RetSz left ((mszLFunc s0 : Nat) : Int) w) := by
  go_enter Try.func15, Try.ntmps15
  go_wp2_with fail
  refine (lawsSzFuncS _ lo hi n0 c0 A0 s0 (h0.below (B := w.heap.size) (by exact belA) hh) (by first | omega | (simp; omega)) left (by omega) (by omega)).mono ?_
  rintro e w0 ⟨r0, rfl, hr0, b0⟩
  obtain ⟨hc0, hf0⟩ := bcell b0
  have hz0 := b0.size
  try simp at hz0
  have hv0 : w.heap.size < w0.heap.size := by omega
  rcases hr0 with rfl | ⟨q0, t0⟩
  · go_wp2_with fail
    go_ret
    exact ⟨_, rfl, Or.inl rfl, by exact belA⟩
  have v0 := Lib.hid t0
  clear t0
  have u0 : r0 ≤ 1048576 := by have := v0.out; omega
  go_wp2_with fail
  go_ret
  exact ⟨_, rfl, Or.inr ⟨by omega, by have := v0.out; omega⟩, by exact belA⟩
end Go.Proofs.Ytgoinmdnpaknpaa
