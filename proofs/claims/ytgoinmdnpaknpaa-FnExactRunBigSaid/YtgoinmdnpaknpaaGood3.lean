/- Several texts in one: PgP, PgI, PgS. -/
import Derived.Test.YtgoinmdnpaknpaaGood2
import Derived.Deep.QuietTactic
import Derived.BigQuiet

/- A good program: what the reference asks is what the program asks. Plain law. -/
set_option linter.unusedVariables false
set_option linter.unusedSimpArgs false
namespace Go.Proofs.Ytgoinmdnpaknpaa
open Go.RowKit
def nOf (ss : List Stmt) (k : Int) : Int := (ss[k.toNat]?.map fun s => s.2.1).getD 0
def funcOkS (ps : List Int) (f : Func) : Bool := funcS ps f.1 f.2.1 f.2.2.1 f.2.2.2 && (sitesF f.2.2.2).all fun k => ps.getD (nOf f.2.2.2 k).toNat 0 == 0
def stmtOkI (fv : Int) (ps : List Int) (s : Stmt) : Bool := decide (0 ≤ s.2.1) && stmtI fv ps s.1 s.2.1 s.2.2.1 ps.length s.2.2.1.length s.2.2.2.1.length s.2.2.2.2.length
def funcOkI (ps : List Int) (f : Func) : Bool := shapeI f.1 f.2.1 f.2.2.1 f.2.2.2 && f.2.2.2.all (stmtOkI f.2.1 ps)
def goodP (fs : List Func) : Bool := inB (fs.length : Int) 1 5 && parB (paramsF fs) && ((paramsF fs).getD 0 0 == 0) && fs.all (funcOkI (paramsF fs))
theorem mem_sitesF {ss : List Stmt} {x : Int} : x ∈ sitesF ss ↔ ∃ (k : Nat) (h : k < ss.length), x = (k : Int) ∧ ss[k].1 = 3 := by
  unfold sitesF
  rw [List.mem_map]
  constructor
  · rintro ⟨⟨s, i⟩, hp, rfl⟩
    obtain ⟨h1, h2⟩ := List.mem_filter.1 hp
    have h3 := List.mem_zipIdx h1
    simp only [Nat.zero_add, Nat.sub_zero] at h3
    exact ⟨i, h3.2.1, rfl, by rw [← h3.2.2]; simpa using h2⟩
  · rintro ⟨k, h, rfl, h3⟩
    refine ⟨(ss[k], k), List.mem_filter.2 ⟨?_, by simpa using h3⟩, rfl⟩
    rw [List.mem_zipIdx_iff_getElem?]
    simp [h]
theorem sites_all {ss : List Stmt} {ps : List Int} : ((sitesF ss).all fun k => ps.getD (nOf ss k).toNat 0 == 0) = true ↔ ∀ s, s ∈ ss → s.1 = 3 → ps.getD s.2.1.toNat 0 = 0 := by
  rw [List.all_eq_true]
  constructor
  · intro h s hs h3
    obtain ⟨k, hk, rfl⟩ := List.getElem_of_mem hs
    have := h (k : Int) (mem_sitesF.2 ⟨k, hk, rfl, h3⟩)
    simpa [nOf, hk] using this
  · intro h x hx
    obtain ⟨k, hk, rfl, h3⟩ := mem_sitesF.1 hx
    have := h _ (List.getElem_mem hk) h3
    simpa [nOf, hk] using this
theorem func_same {ps : List Int} (hp : parB ps = true) (f : Func) : funcOkS ps f = funcOkI ps f := by
  obtain ⟨x0, x1, body, ss⟩ := f
  rw [Bool.eq_iff_iff]
  unfold funcOkS funcOkI funcS shapeI
  simp only
  rw [Bool.and_eq_true, sites_all]
  simp only [Bool.and_eq_true, decide_eq_true_eq]
  have hst : ∀ s, s ∈ ss → inB x1 0 6 = true → ((stmtS x1 ps s.1 s.2.1 s.2.2.1 ps.length s.2.2.1.length s.2.2.2.1.length s.2.2.2.2.length = true ∧ (s.1 = 3 → ps.getD s.2.1.toNat 0 = 0)) ↔ stmtOkI x1 ps s = true) := by
    intro s _ hv
    unfold stmtOkI
    rw [← stmt_same hv hp, Bool.and_eq_true]
    refine and_congr_right fun _ => ?_
    by_cases h3 : s.1 = 3 <;> simp [h3]
  constructor
  · rintro ⟨⟨⟨⟨⟨⟨⟨g1, g2⟩, g3⟩, g4⟩, g5⟩, g6⟩, g7⟩, g8⟩
    have hv : inB x1 0 6 = true := by have := inB_iff.1 g1; have := inB_iff.1 g2; exact inB_true (by omega)
    obtain ⟨s1, s2, s3, s4, s5⟩ := shape_same.2 ⟨g4, g6⟩
    rw [List.all_eq_true] at g7
    refine ⟨⟨⟨⟨⟨⟨⟨⟨⟨g1, g2⟩, g3⟩, g5⟩, ok_rangesB s3⟩, s1⟩, ok_inBs (lo := 0) s2⟩, s4⟩, s5, ?_⟩, ?_⟩
    · rw [List.all_eq_true]; intro s hs
      have := g7 s hs
      simp only [stOkS, Bool.and_eq_true] at this
      exact this.2
    · rw [List.all_eq_true]; intro s hs
      have := g7 s hs
      simp only [stOkS, Bool.and_eq_true] at this
      exact (hst s hs hv).1 ⟨this.1, g8 s hs⟩
  · rintro ⟨⟨⟨⟨⟨⟨⟨⟨⟨g1, g2⟩, g3⟩, g5⟩, r1⟩, s1⟩, r2⟩, s4⟩, s5, g9⟩, g8⟩
    have hv : inB x1 0 6 = true := by have := inB_iff.1 g1; have := inB_iff.1 g2; exact inB_true (by omega)
    obtain ⟨g4, g6⟩ := shape_same.1 ⟨s1, inBs_ok (lo := 0) r2, rangesB_ok r1, s4, s5⟩
    rw [List.all_eq_true] at g8 g9
    refine ⟨⟨⟨⟨⟨⟨⟨g1, g2⟩, g3⟩, g4⟩, g5⟩, g6⟩, ?_⟩, fun s hs => ((hst s hs hv).2 (g8 s hs)).2⟩
    rw [List.all_eq_true]; intro s hs
    simp only [stOkS, Bool.and_eq_true]
    exact ⟨((hst s hs hv).2 (g8 s hs)).1, g9 s hs⟩
theorem goodP_S {fs : List Func} : goodP fs = (inB (fs.length : Int) 1 5 && parB (paramsF fs) && ((paramsF fs).getD 0 0 == 0) && fs.all (funcOkS (paramsF fs))) := by
  unfold goodP
  by_cases hp : parB (paramsF fs) = true
  · rw [show funcOkI (paramsF fs) = funcOkS (paramsF fs) from funext fun f => (func_same hp f).symm]
  · have hp : parB (paramsF fs) = false := by simpa using hp
    rw [hp]; simp
end Go.Proofs.Ytgoinmdnpaknpaa

/- A good program: the program's walk. -/
set_option linter.unusedVariables false
set_option linter.unusedSimpArgs false
set_option maxRecDepth 100000
namespace Go.Proofs.Ytgoinmdnpaknpaa
open Go.RowKit
set_option maxHeartbeats 2000000 in
theorem isProg1 (w : World) (lo hi lo' hi' : Nat) (pf pp : Nat) (u0 fv : Int) (B2 B3 : Option Addr) (m2 d2 m3 d3 : Nat) (k n : Int) (A2 : Option Addr) (n2 c2 : Nat) (ex : List Tok) (A3 A4 : Option Addr) (n3 c3 n4 c4 : Nat) (A : Option Addr) (n' c' : Nat) (ps : List Int)
    (f0 : w.cell? ⟨pf, 0, none⟩ = some (.int .i64 u0)) (f1 : w.cell? ⟨pf, 1, none⟩ = some (.int .i64 fv)) (f2 : w.cell? ⟨pf, 2, none⟩ = some (.slice B2 m2 d2)) (f3 : w.cell? ⟨pf, 3, none⟩ = some (.slice B3 m3 d3)) (q0 : w.cell? ⟨pp, 0, none⟩ = some (.slice A n' c'))
    (h2 : Sl TokR w lo hi A2 n2 c2 ex) (h : Sl intR w lo' hi' A n' c' ps) (hh : hi ≤ w.heap.size) (hh' : hi' ≤ w.heap.size) (hv : 0 ≤ fv ∧ fv ≤ 100) (hp : goodNeeds ps) (hn' : n' ≤ 100) (m3' : n3 ≤ 1048576) (m4' : n4 ≤ 1048576) (i1 : I64 n) :
    Calls Try.prog 80 (#[.agg #[.int .i64 k, .int .i64 n, .slice A2 n2 c2, .slice A3 n3 c3, .slice A4 n4 c4]] ++ #[.pointer (some ⟨pf, 0, none⟩), .pointer (some ⟨pp, 0, none⟩)]) w (RetB (!(decide (0 ≤ n) && stmtI fv ps k n ex n' n2 n3 n4)) w) := by
  show Calls Try.prog 80 #[.agg #[.int .i64 k, .int .i64 n, .slice A2 n2 c2, .slice A3 n3 c3, .slice A4 n4 c4], .pointer (some ⟨pf, 0, none⟩), .pointer (some ⟨pp, 0, none⟩)] w _
  have z1 : pf < w.heap.size := World.block_lt_of_cell? w _ f0
  have z2 : pp < w.heap.size := World.block_lt_of_cell? w _ q0
  have HP := Lib.hid hp
  clear hp
  by_cases hn : n < 0
  · have hd : decide (n < 0) = true := by simpa using hn
    have hv' := Lib.hid (show decide (0 ≤ n) = false by simp; omega)
    clear hn
    go_enter Try.func80, Try.ntmps80
    go_wp2_with fail
    go_ret
    exact RetB.mk (by rw [hv'.out]; rfl) (by exact belA)
  · have hd : decide (n < 0) = false := by simpa using hn
    have hv' := Lib.hid (show decide (0 ≤ n) = true by simp; omega)
    clear hn
    go_enter Try.func80, Try.ntmps80
    go_wp2_with fail
    refine (implIsStmt _ lo hi lo' hi' u0 fv _ _ k n A2 n2 c2 ex A3 A4 n3 c3 n4 c4 A n' c' ps (h2.below (show Below w.heap.size w _ by exact belA) hh) (h.below (show Below w.heap.size w _ by exact belA) hh') (by first | omega | (simp; omega)) (by first | omega | (simp; omega)) hv HP.out hn' m3' m4').mono ?_
    rintro e w2 ⟨rfl, hb⟩
    go_wp2_with fail
    go_ret
    exact RetB.mk (by rw [hv'.out, Bool.true_and]) (by exact belA)
set_option maxHeartbeats 4000000 in
theorem implIsProg (w : World) (lo hi : Nat) (A : Option Addr) (n c : Nat) (fs : List Func) (h : Sl FuncR w lo hi A n c fs) (hh : hi ≤ w.heap.size) (hm : mszLFunc fs ≤ 1048576) :
    Calls Try.prog 56 #[.agg #[.slice A n c]] w (RetB (goodP fs) w) := by
  have e1 := h.lenEq
  have hml := mszLFunc_len fs
  have hpl : (paramsF fs).length = fs.length := by simp [paramsF]
  go_enter Try.func56, Try.ntmps56
  go_wp2_with fail
  refine (implParamsOf _ lo hi A n c fs (h.below (show Below w.heap.size w _ by exact belA) hh) (by first | omega | (simp; omega)) (by omega)).mono ?_
  rintro e w2 ⟨F2, Ap, np, cp, rfl, hop, hFp, hb2⟩
  have hS := hop.sl
  have lp := hS.lenEq
  have hx2 : Below w.heap.size w w2 := by exact belA
  obtain ⟨hcE, hfE⟩ := bcell hb2
  have p0 : w2.cell? ⟨w.heap.size, 0, none⟩ = some (.slice A n c) := by simp [hcE, go_sem]
  have hz2 := hb2.size
  simp at hz2
  have hzw : w.heap.size < w2.heap.size := by omega
  clear hcE hfE hop hFp hb2
  by_cases g1 : inB (n : Int) 1 5 = true
  rotate_left
  · have g1 : inB (n : Int) 1 5 = false := by simpa using g1
    have hv := Lib.hid (show goodP fs = false by unfold goodP; rw [e1, g1]; rfl)
    go_wp2_with (go_at_call 45; ((with_reducible refine (implWithin _ _ _ _).mono ?_); rintro e w3 ⟨rfl, rfl⟩))
    go_ret
    exact RetB.mk hv.out.symm (by exact belA)
  by_cases g2 : parB (paramsF fs) = true
  rotate_left
  · have g2 : parB (paramsF fs) = false := by simpa using g2
    have hv := Lib.hid (show goodP fs = false by unfold goodP; rw [g2]; simp)
    go_wp2_with (first
      | (go_at_call 45; ((with_reducible refine (implWithin _ _ _ _).mono ?_); rintro e w3 ⟨rfl, rfl⟩))
      | (go_at_call 77; ((with_reducible refine (implAreParams _ 0 w2.heap.size np cp Ap _ (hS.below (show Below w2.heap.size w2 _ by exact belA) (Nat.le_refl _)) (by simp)).mono ?_); rintro e w3 ⟨rfl, hb3⟩)))
    go_ret
    exact RetB.mk hv.out.symm (below_then hx2 (by exact belA))
  have g1' := inB_iff.1 g1
  obtain ⟨hgn, _⟩ := parB_good g2
  have hn5 : n ≤ 5 := by omega
  obtain hnp : n = np := by omega
  subst hnp
  have HG := Lib.hid hgn
  clear hgn
  obtain ⟨x0, hx0⟩ : ∃ x, (paramsF fs)[0]'(by omega) = x := ⟨_, rfl⟩
  obtain ⟨b0, o0, rfl, _, _, hc0, _⟩ := hS.int_at (k := 0) (by omega)
  rw [hx0] at hc0
  have hc0 : w2.cell? ⟨b0, o0, none⟩ = some (.int .i64 x0) := hc0
  have hzb : b0 < w2.heap.size := World.block_lt_of_cell? w2 _ hc0
  have hgd : (paramsF fs).getD 0 0 = x0 := by rw [← hx0]; simp only [List.getD]; rw [List.getElem?_eq_getElem (by omega), Option.getD_some]
  have hnp1 : 0 < n := by omega
  by_cases g3 : x0 = 0
  rotate_left
  · have hv := Lib.hid (show goodP fs = false by unfold goodP; rw [hgd]; simp [g3])
    have hd : (x0 != 0) = true := by simpa using g3
    clear hx0 hgd g3
    go_wp2_with fail
    refine (implWithin _ _ _ _).mono ?_
    rintro e w3 ⟨rfl, rfl⟩
    go_wp2_with fail
    refine (implAreParams _ 0 w2.heap.size n cp _ _ (hS.below (show Below w2.heap.size w2 _ by exact belA) (Nat.le_refl _)) (by simp)).mono ?_
    rintro e w3 ⟨rfl, hb3⟩
    have hx3 : Below w2.heap.size w2 w3 := by exact belA
    have hc3 := below_cell hx3 hc0
    have k3 : w3.cell? ⟨w2.heap.size, 0, none⟩ = some (.slice (some ⟨b0, o0, none⟩) n cp) := below_cell hb3 (by simp [go_sem])
    go_wp2_with fail
    go_ret
    exact RetB.mk hv.out.symm (below_then hx2 hx3)
  have hv := Lib.hid (show goodP fs = fs.all (funcOkI (paramsF fs)) by unfold goodP; rw [e1, g1, g2, hgd, g3]; rfl)
  subst g3
  clear hx0 hgd
  go_wp2_with fail
  refine (implWithin _ _ _ _).mono ?_
  rintro e w3 ⟨rfl, rfl⟩
  go_wp2_with fail
  refine (implAreParams _ 0 w2.heap.size n cp _ _ (hS.below (show Below w2.heap.size w2 _ by exact belA) (Nat.le_refl _)) (by simp)).mono ?_
  rintro e w3 ⟨rfl, hb3⟩
  have hx3 : Below w2.heap.size w2 w3 := by exact belA
  have hz3 := hb3.size
  simp at hz3
  have hc3 := below_cell hx3 hc0
  have k3 : w3.cell? ⟨w2.heap.size, 0, none⟩ = some (.slice (some ⟨b0, o0, none⟩) n cp) := below_cell hb3 (by simp [go_sem])
  have p3 := below_cell hx3 p0
  have hS3 := hS.below hx3 (Nat.le_refl _)
  have hw3 := below_then hx2 hx3
  have hz3' : w2.heap.size ≤ w3.heap.size := by omega
  go_wp2_with fail
  have C0 := hc3
  go_loopw [27] (fun i wr => ∃ k : Nat, k ≤ n ∧ i = .int .i64 k ∧ (fs.take k).all (funcOkI (paramsF fs)) = true ∧ Below w3.heap.size w3 wr) (fun i _ => n - (intOf i).toNat)
  case atStart => exact ⟨0, Nat.zero_le _, rfl, rfl, Below.refl _ _⟩
  case round =>
    obtain ⟨k, hk, rfl, ht0, hb⟩ := hrel
    have ht := Lib.hid ht0
    clear ht0
    have hzr := hb.size
    have hxr := below_then hw3 hb
    by_cases hlt : k < n
    · obtain ⟨bb, oo, x0, x1, A2, n2, c2, body, A3, n3, c3, ss, rfl, _, _, hl0, i0, i1, h2, h3, d0, d1, d2, d3⟩ := Func_at (h.below hxr hh) hlt
      have hm1 := mszFunc_at (l := fs) (k := k) (by omega)
      rw [hl0] at hm1
      simp only [mszFunc] at hm1
      have hok := Lib.hid (fun (hp : funcOkI (paramsF fs) (x0, x1, body, ss) = true) => all_take_succ (p := funcOkI (paramsF fs)) ht.out (by omega) (by rw [hl0]; exact hp))
      have hno := Lib.hid (fun (hp : funcOkI (paramsF fs) (x0, x1, body, ss) = false) => all_false (p := funcOkI (paramsF fs)) (l := fs) (k := k) (by omega) (by rw [hl0]; exact hp))
      have q2 := h2.lenEq
      have q3 := h3.lenEq
      have hn2 : n2 ≤ 1048576 := by omega
      have kr := below_cell hb k3
      have pr := below_cell hb p3
      have hSr := hS3.below hb hz3'
      clear hl0
      by_cases hs : shapeI x0 x1 body ss = true
      rotate_left
      · have hs : shapeI x0 x1 body ss = false := by simpa using hs
        have hn9 := Lib.hid (hno.out (by unfold funcOkI; rw [hs]; rfl))
        go_wp2_with fail
        refine (implIsShaped _ lo hi x0 x1 A2 n2 c2 body A3 n3 c3 ss (h2.below (show Below wr.heap.size wr _ by exact belA) (by omega)) (h3.below (show Below wr.heap.size wr _ by exact belA) (by omega)) (by first | omega | (simp; omega)) (by omega) hn2).mono ?_
        rintro e w6 ⟨rfl, hb6⟩
        go_wp2_with fail
        go_ret
        exact RetB.mk (by rw [hv.out, hn9.out]) (below_then hxr (by exact belA))
      have hs1 : inB x0 0 2 = true ∧ inB x1 x0 6 = true := by
        unfold shapeI at hs
        simp only [Bool.and_eq_true] at hs
        exact ⟨hs.1.1.1.1.1.1.1.1, hs.1.1.1.1.1.1.1.2⟩
      have hfv : 0 ≤ x1 ∧ x1 ≤ 100 := by
        have a1 := inB_iff.1 hs1.1
        have a2 := inB_iff.1 hs1.2
        omega
      have hFI := Lib.hid (show funcOkI (paramsF fs) (x0, x1, body, ss) = ss.all (stmtOkI x1 (paramsF fs)) by unfold funcOkI; rw [hs]; rfl)
      have hAny := Lib.hid (any_not_all (stmtOkI x1 (paramsF fs)) ss)
      have lp' : (paramsF fs).length = n := lp
      clear hs1
      go_wp2_with fail
      refine (implIsShaped _ lo hi x0 x1 A2 n2 c2 body A3 n3 c3 ss (h2.below (show Below wr.heap.size wr _ by exact belA) (by omega)) (h3.below (show Below wr.heap.size wr _ by exact belA) (by omega)) (by first | omega | (simp; omega)) (by omega) hn2).mono ?_
      rintro e w6 ⟨rfl, hb6⟩
      have hx6 : Below wr.heap.size wr w6 := by exact belA
      have hz6 := hb6.size
      simp at hz6
      obtain ⟨hcE, hfE⟩ := bcell hb6
      have t0 : w6.cell? ⟨wr.heap.size, 0, none⟩ = some (.int .i64 x0) := by simp [hcE, go_sem]
      have t1 : w6.cell? ⟨wr.heap.size, 1, none⟩ = some (.int .i64 x1) := by simp [hcE, go_sem]
      have t2 : w6.cell? ⟨wr.heap.size, 2, none⟩ = some (.slice A2 n2 c2) := by simp [hcE, go_sem]
      have t3 : w6.cell? ⟨wr.heap.size, 3, none⟩ = some (.slice A3 n3 c3) := by simp [hcE, go_sem]
      clear hcE hfE hb6
      have kr6 := below_cell hx6 kr
      go_wp2_with fail
      refine (conFuncStmt 80 #[.pointer (some ⟨wr.heap.size, 0, none⟩), .pointer (some ⟨w2.heap.size, 0, none⟩)] (fun s => !stmtOkI x1 (paramsF fs) s) _ lo hi n3 c3 A3 ss (h3.below hx6 (by omega)) (by omega) (fun _ _ => by kernel_rfl) (fun W y0 y1 B2 m2 e2 s2 B3 m3 e3 s3 B4 m4 e4 s4 hmem hW j0 j1 T2 T3 T4 => ?_)).mono ?_
      · have E2 := T2.lenEq
        have E3 := T3.lenEq
        have E4 := T4.lenEq
        obtain ⟨kk, hkk, hke⟩ := List.getElem_of_mem hmem
        have hm2 := mszStmt_at (l := ss) (k := kk) hkk
        rw [hke] at hm2
        simp only [mszStmt] at hm2
        have hSW := hSr.below (below_then hx6 hW) (by omega)
        have hzW := hW.size
        have key : stmtOkI x1 (paramsF fs) (y0, y1, s2, s3, s4) = (decide (0 ≤ y1) && stmtI x1 (paramsF fs) y0 y1 s2 n m2 m3 m4) := by unfold stmtOkI; simp only [E2, E3, E4, lp']
        rw [key]
        exact isProg1 W lo hi 0 w2.heap.size wr.heap.size w2.heap.size x0 x1 A2 A3 n2 c2 n3 c3 y0 y1 B2 m2 e2 s2 B3 B4 m3 e3 m4 e4 _ n cp (paramsF fs) (below_cell hW t0) (below_cell hW t1) (below_cell hW t2) (below_cell hW t3) (below_cell hW kr6) T2 hSW (by omega) (by omega) hfv HG.out (by omega) (by omega) (by omega) j1
      rintro e w7 ⟨rfl, hb7⟩
      generalize hvv : ss.any (fun s => !stmtOkI x1 (paramsF fs) s) = v
      have hvH := Lib.hid hvv
      clear hvv
      cases v
      · have hy := Lib.hid (hok.out (by rw [hFI.out, ← hAny.out, hvH.out]; rfl))
        go_wp2_with fail
        go_roundw
        case rel => exact ⟨k + 1, by omega, by go_num, hy.out, below_then hb (below_then hx6 hb7)⟩
        case measure => simp [intOf]; omega
      · have hy := Lib.hid (hno.out (by rw [hFI.out, ← hAny.out, hvH.out]; rfl))
        go_wp2_with fail
        go_ret
        exact RetB.mk (by rw [hv.out, hy.out]) (below_then hxr (below_then hx6 hb7))
    · have hfin := ht.out
      rw [List.take_of_length_le (by omega)] at hfin
      have hF := Lib.hid hfin
      clear hfin
      go_wp2_with fail
      go_ret
      exact RetB.mk (by rw [hv.out, hF.out]) hxr
end Go.Proofs.Ytgoinmdnpaknpaa

/- A good program: the reference's walk. -/
set_option linter.unusedVariables false
set_option linter.unusedSimpArgs false
set_option maxRecDepth 100000
namespace Go.Proofs.Ytgoinmdnpaknpaa
open Go.RowKit
theorem site_in {ps : List Int} {x0 x1 : Int} {body : List Int} {ss : List Stmt} (h : funcS ps x0 x1 body ss = true) {x : Int} (hx : x ∈ sitesF ss) : ∃ j : Nat, x = (j : Int) ∧ j < ss.length ∧ 0 ≤ nOf ss (j : Int) ∧ nOf ss (j : Int) < (ps.length : Int) := by
  obtain ⟨j, hj, rfl, h3⟩ := mem_sitesF.1 hx
  refine ⟨j, rfl, hj, ?_⟩
  unfold funcS at h
  simp only [Bool.and_eq_true] at h
  have h7 := h.2
  rw [List.all_eq_true] at h7
  have := h7 _ (List.getElem_mem hj)
  simp only [stOkS, Bool.and_eq_true] at this
  have h9 := this.1
  unfold stmtS at h9
  rw [h3] at h9
  simp at h9
  have := inB_iff.1 h9.1.2
  simp [nOf, hj]
  omega
/-- What a statement names, out of the cells that hold the statements. -/
theorem n_at {w : World} {lo hi : Nat} {A : Option Addr} {n c k : Nat} {l : List Stmt} (h : Sl StmtR w lo hi A n c l) (hk : k < n) : ∃ b off, A = some ⟨b, off, none⟩ ∧ lo ≤ b ∧ b < hi ∧ w.cell? ⟨b, off + k * 5 + 1, none⟩ = some (.int .i64 (nOf l (k : Int))) := by
  have e1 := h.lenEq
  obtain ⟨b, o, x0, x1, A2, n2, c2, s2, A3, n3, c3, s3, A4, n4, c4, s4, rfl, h1, h2, hl0, _, _, _, _, _, d0, d1, _⟩ := Stmt_at h hk
  refine ⟨b, o, rfl, h1, h2, ?_⟩
  unfold nOf; rw [show ((k : Int)).toNat = k from rfl, List.getElem?_eq_getElem (by omega), hl0]; exact d1
theorem par_at {w : World} {lo hi : Nat} {A : Option Addr} {n c k : Nat} {l : List Func} (h : Sl FuncR w lo hi A n c l) (hk : k < n) : ∃ b off, A = some ⟨b, off, none⟩ ∧ lo ≤ b ∧ b < hi ∧ w.cell? ⟨b, off + k * 4, none⟩ = some (.int .i64 ((paramsF l).getD k 0)) := by
  have e1 := h.lenEq
  obtain ⟨b, o, x0, x1, A2, n2, c2, s2, A3, n3, c3, s3, rfl, h1, h2, hl0, _, _, _, _, d0, _⟩ := Func_at h hk
  refine ⟨b, o, rfl, h1, h2, ?_⟩
  have : (paramsF l).getD k 0 = x0 := by
    have hkl : k < l.length := by omega
    simp only [List.getD, paramsF, List.getElem?_map]
    rw [List.getElem?_eq_getElem hkl, hl0]; rfl
  rw [this]; exact d0
set_option maxHeartbeats 8000000 in
theorem specGoodProg (w : World) (lo hi : Nat) (A : Option Addr) (n c : Nat) (fs : List Func) (h : Sl FuncR w lo hi A n c fs) (hh : hi ≤ w.heap.size) (hm : mszLFunc fs ≤ 1048576) :
    Calls Try.prog 52 #[.agg #[.slice A n c]] w (RetB (goodP fs) w) := by
  have e1 := h.lenEq
  have hml := mszLFunc_len fs
  have hpl : (paramsF fs).length = n := by simp [paramsF, e1]
  by_cases g1 : inB (n : Int) 1 5 = true
  rotate_left
  · have g1 : inB (n : Int) 1 5 = false := by simpa using g1
    have hv := Lib.hid (show goodP fs = false by rw [goodP_S, e1, g1]; rfl)
    go_enter Try.func52, Try.ntmps52
    go_wp2_with (go_at_call 44; ((with_reducible refine (specL1In _ _ _ _).mono ?_); rintro e w3 ⟨rfl, rfl⟩))
    go_ret
    exact RetB.mk hv.out.symm (by exact belA)
  have g1' := inB_iff.1 g1
  have hn5 : n ≤ 5 := by omega
  have hn0 : 0 < n := by omega
  obtain ⟨b0, o0, rfl, _, hb0, hc0⟩ := par_at h hn0
  rw [Nat.zero_mul, Nat.add_zero] at hc0
  have hzb : b0 < w.heap.size := by omega
  generalize hx0 : (paramsF fs).getD 0 0 = x0 at hc0
  have hx0H := Lib.hid hx0
  clear hx0
  go_enter Try.func52, Try.ntmps52
  go_wp2_with fail
  refine (specL1In _ _ _ _).mono ?_
  rintro e w3 ⟨rfl, rfl⟩
  go_wp2_with fail
  refine (specL3Params _ lo hi _ n c fs (h.below (show Below w.heap.size w _ by exact belA) hh) (by first | omega | (simp; omega)) (by omega)).mono ?_
  rintro e w2 ⟨F2, Ap, np, cp, rfl, hop, hFp, hb2⟩
  have hS := hop.sl
  have hx2 : Below w.heap.size w w2 := by exact belA
  obtain ⟨hcE, hfE⟩ := bcell hb2
  have p0 : w2.cell? ⟨w.heap.size, 0, none⟩ = some (.slice (some ⟨b0, o0, none⟩) n c) := by simp [hcE, go_sem]
  have hz2 := hb2.size
  simp at hz2
  have hzw : w.heap.size < w2.heap.size := by omega
  have hc2 := below_cell hx2 hc0
  clear hcE hfE hop hFp hb2
  go_wp2_with fail
  refine (specL2Params _ 0 w2.heap.size np cp Ap _ (hS.below (show Below w2.heap.size w2 _ by exact belA) (Nat.le_refl _)) (by simp)).mono ?_
  rintro e w3 ⟨rfl, hb3⟩
  have hx3 : Below w2.heap.size w2 w3 := by exact belA
  have p3 := below_cell hx3 p0
  have hc3 := below_cell hx3 hc2
  have hw3 := below_then hx2 hx3
  have hz3 := hx3.size
  clear hS
  by_cases g2 : parB (paramsF fs) = true
  rotate_left
  · have g2 : parB (paramsF fs) = false := by simpa using g2
    go_wp2_with fail
    go_ret
    exact RetB.mk (by rw [goodP_S, g2]; simp) hw3
  by_cases g3 : x0 = 0
  rotate_left
  · have hv := Lib.hid (show goodP fs = false by rw [goodP_S, hx0H.out]; simp [g3])
    have hd : (x0 != 0) = true := by simpa using g3
    clear g3
    go_wp2_with fail
    go_ret
    exact RetB.mk hv.out.symm hw3
  have hv := Lib.hid (show goodP fs = fs.all (funcOkS (paramsF fs)) by rw [goodP_S, e1, g1, g2, hx0H.out, g3]; rfl)
  subst g3
  have HPL := Lib.hid hpl
  clear hpl
  go_wp2_with fail
  go_loopw [29] (fun i wr => ∃ k : Nat, k ≤ n ∧ i = .int .i64 k ∧ (fs.take k).all (funcOkS (paramsF fs)) = true ∧ Below w3.heap.size w3 wr) (fun i _ => n - (intOf i).toNat)
  case atStart => exact ⟨0, Nat.zero_le _, rfl, rfl, Below.refl _ _⟩
  case round =>
    obtain ⟨k, hk, rfl, ht0, hb⟩ := hrel
    have ht := Lib.hid ht0
    clear ht0
    have hzr := hb.size
    have hxr := below_then hw3 hb
    by_cases hlt : k < n
    · obtain ⟨bb, oo, x0, x1, A2, n2, c2, body, A3, n3, c3, ss, e9, _, _, hl0, i0, i1, h2, h3, d0, d1, d2, d3⟩ := Func_at (h.below hxr hh) hlt
      injection e9 with e9
      injection e9 with e91 e92
      subst e91 e92
      have hm1 := mszFunc_at (l := fs) (k := k) (by omega)
      rw [hl0] at hm1
      simp only [mszFunc] at hm1
      have hok := Lib.hid (fun (hp : funcOkS (paramsF fs) (x0, x1, body, ss) = true) => all_take_succ (p := funcOkS (paramsF fs)) ht.out (by omega) (by rw [hl0]; exact hp))
      have hno := Lib.hid (fun (hp : funcOkS (paramsF fs) (x0, x1, body, ss) = false) => all_false (p := funcOkS (paramsF fs)) (l := fs) (k := k) (by omega) (by rw [hl0]; exact hp))
      have hn2 : body.length ≤ 1048576 := by omega
      have pr := below_cell hb p3
      have hzwr : w.heap.size < wr.heap.size := by omega
      have E3 := Lib.hid h3.lenEq
      clear hl0
      go_wp2_with fail
      go_region_held3 (fun W => W.cell? ⟨wr.heap.size, 0, none⟩ = some (.int .i64 x0) ∧ W.cell? ⟨wr.heap.size, 1, none⟩ = some (.int .i64 x1) ∧ W.cell? ⟨wr.heap.size, 2, none⟩ = some (.slice A2 n2 c2) ∧ W.cell? ⟨wr.heap.size, 3, none⟩ = some (.slice A3 n3 c3) ∧ W.cell? ⟨w.heap.size, 0, none⟩ = some (.slice (some ⟨b0, o0, none⟩) n c))
        (first | exact ⟨by simp [go_sem], by simp [go_sem], by simp [go_sem], by simp [go_sem], by simp [go_sem, hzwr, pr]⟩ | exact ⟨t0, t1, t2, t3, t4⟩ | exact ⟨r0, r1, r2, r3, r4⟩)
        (first
          | (go_at_call 70; ((with_reducible refine (specL3Params _ lo hi _ n c fs (h.below (below_then hxr (show Below wr.heap.size wr _ by exact belA)) hh) (Nat.le_trans hh (below_then hxr (show Below wr.heap.size wr _ by exact belA)).size) (by omega)).mono ?_); rintro e w4 ⟨F4, A4, n4, c4, rfl, ho4, hF4, hb4⟩; obtain ⟨hcE, hfE⟩ := bcell hb4; have t0 : w4.cell? ⟨wr.heap.size, 0, none⟩ = some (.int .i64 x0) := (by simp [hcE, go_sem]); have t1 : w4.cell? ⟨wr.heap.size, 1, none⟩ = some (.int .i64 x1) := (by simp [hcE, go_sem]); have t2 : w4.cell? ⟨wr.heap.size, 2, none⟩ = some (.slice A2 n2 c2) := (by simp [hcE, go_sem]); have t3 : w4.cell? ⟨wr.heap.size, 3, none⟩ = some (.slice A3 n3 c3) := (by simp [hcE, go_sem]); have hx4 : Below wr.heap.size wr w4 := (by exact belA); have t4 := below_cell hx4 pr; have hz4 := hb4.size; clear hcE hfE))
          | (go_at_call 71; ((with_reducible refine (specL3Func _ lo hi 0 w4.heap.size x0 x1 A2 n2 c2 body A3 n3 c3 ss A4 n4 c4 (paramsF fs) (h2.below (below_then hx4 (show Below w4.heap.size w4 _ by exact belA)) (by omega)) (h3.below (below_then hx4 (show Below w4.heap.size w4 _ by exact belA)) (by omega)) (ho4.sl.below (show Below w4.heap.size w4 _ by exact belA) (Nat.le_refl _)) (Nat.le_trans (show hi ≤ wr.heap.size by omega) (below_then hx4 (show Below w4.heap.size w4 _ by exact belA)).size) ((show Below w4.heap.size w4 _ by exact belA).size) (by omega) (by have := ho4.sl.lenEq; have := HPL.out; omega)).mono ?_); rintro e w5 ⟨rfl, hb5⟩; have hx5 : Below w4.heap.size w4 w5 := (by exact belA); have r0 := below_cell hx5 t0; have r1 := below_cell hx5 t1; have r2 := below_cell hx5 t2; have r3 := below_cell hx5 t3; have r4 := below_cell hx5 t4)))
      have hx45 : Below wr.heap.size wr w5 := below_then hx4 hx5
      have hz5 := hx5.size
      have hz45 := hx45.size
      have hzw5 : wr.heap.size < w5.heap.size := by simp at hz4; omega
      have hzw6 : w.heap.size < w5.heap.size := by omega
      clear t0 t1 t2 t3 t4 ho4 hF4 hb4 hb5
      generalize hf0 : funcS (paramsF fs) x0 x1 body ss = z
      have hfH := Lib.hid hf0
      clear hf0
      cases z
      · have hn9 := Lib.hid (hno.out (by unfold funcOkS; rw [hfH.out]; rfl))
        go_wp2_with fail
        go_ret
        exact RetB.mk (by rw [hv.out, hn9.out]) (below_then hxr hx45)
      have hSI := Lib.hid (fun x (hx : x ∈ sitesF ss) => site_in hfH.out hx)
      have hFI := Lib.hid (show funcOkS (paramsF fs) (x0, x1, body, ss) = (sitesF ss).all fun k => (paramsF fs).getD (nOf ss k).toNat 0 == 0 by unfold funcOkS; rw [hfH.out]; rfl)
      go_wp2_with fail
      refine (specL3Sites _ lo hi x0 x1 _ A3 n3 c3 ss (h3.below hx45 (by omega)) (by omega) (by have := E3.out; have := mszLStmt_len ss; omega)).mono ?_
      rintro e w6 ⟨F6, A6, n6, c6, rfl, ho6, hF6, hb6⟩
      have hO6 := ho6.sl
      have l6 := hO6.lenEq
      have l6' := hO6.lenLe
      have r3 := below_cell hb6 r3
      have r4 := below_cell hb6 r4
      have hx6 := below_then hx45 hb6
      have hz6 := hb6.size
      clear ho6 hF6 r0 r1 r2
      generalize hsit : sitesF ss = sit at hO6 l6 hSI hFI
      clear hsit
      go_wp2_with fail
      go_loopw [41] (fun i wq => ∃ q : Nat, q ≤ n6 ∧ i = .int .i64 q ∧ ((sit.take q).all fun k => (paramsF fs).getD (nOf ss k).toNat 0 == 0) = true ∧ Below w6.heap.size w6 wq) (fun i _ => n6 - (intOf i).toNat)
      case atStart => exact ⟨0, Nat.zero_le _, rfl, rfl, Below.refl _ _⟩
      case round =>
        obtain ⟨q, hq, rfl, hal0, hbq⟩ := hrel
        have hal := Lib.hid hal0
        clear hal0
        have hzq := hbq.size
        by_cases hql : q < n6
        · obtain ⟨b', o', rfl, _, _, hc6, _⟩ := (hO6.below hbq (Nat.le_refl _)).int_at hql
          obtain ⟨j, hxj, hj1, hj2, hj3⟩ := hSI.out (sit[q]'(by omega)) (List.getElem_mem _)
          have hok7 := Lib.hid (fun (hp : ((paramsF fs).getD (nOf ss (sit[q]'(by omega))).toNat 0 == 0) = true) => all_take_succ (p := fun k => (paramsF fs).getD (nOf ss k).toNat 0 == 0) (k := q) hal.out (by omega) hp)
          have hno7 := Lib.hid (fun (hp : ((paramsF fs).getD (nOf ss (sit[q]'(by omega))).toNat 0 == 0) = false) => all_false (p := fun k => (paramsF fs).getD (nOf ss k).toNat 0 == 0) (l := sit) (k := q) (by omega) hp)
          generalize sit[q]'(by omega) = x at hc6 hxj hok7 hno7
          subst hxj
          have hj3' : j < n3 := by have := E3.out; omega
          obtain ⟨b3, o3, rfl, hb31, hb32, hk3⟩ := n_at (h3.below (below_then hx6 hbq) (by omega)) hj3'
          obtain ⟨N, hN⟩ := Int.eq_ofNat_of_zero_le hj2
          rw [hN] at hk3 hj3
          have hNn : N < n := by have := HPL.out; omega
          obtain ⟨b9, o9, e9, _, _, hk9⟩ := par_at (h.below (below_then hxr (below_then hx6 hbq)) hh) hNn
          injection e9 with e9
          injection e9 with e91 e92
          subst e91 e92
          have hNT : (nOf ss (j : Int)).toNat = N := by omega
          rw [hNT] at hok7 hno7
          have r3q := below_cell hbq r3
          have r4q := below_cell hbq r4
          generalize (paramsF fs).getD N 0 = pv at hk9 hok7 hno7
          have hbi1 : (0 : Int) ≤ (N : Int) := by omega
          have hbi2 : (N : Int) < (n : Int) := by omega
          have hbi3 : (0 : Int) ≤ (j : Int) := by omega
          have hbi4 : (j : Int) < (n3 : Int) := by omega
          clear hN hNT hj2 hj3
          by_cases hpv : pv = 0
          · have hy7 := Lib.hid (hok7.out (by simpa using hpv))
            subst hpv
            go_wp2_with fail
            go_quiet (fail)
            go_wp2_with fail
            go_roundw
            case rel => exact ⟨q + 1, by omega, by go_num, hy7.out, by exact belA⟩
            case measure => simp [intOf]; omega
          · have hn2 := Lib.hid (hno.out (by rw [hFI.out, hno7.out (by simpa using hpv)]))
            have hd : (pv != 0) = true := by simpa using hpv
            clear hpv
            go_wp2_with fail
            go_quiet (fail)
            go_wp2_with fail
            go_ret
            exact RetB.mk (by rw [hv.out, hn2.out]) (below_then hxr (below_then hx6 (by exact belA)))
        · have hal1 := hal.out
          rw [List.take_of_length_le (by omega)] at hal1
          have hy2 := Lib.hid (hok.out (by rw [hFI.out, hal1]))
          clear hal1
          go_wp2_with fail
          go_roundw
          case rel => exact ⟨k + 1, by omega, by go_num, hy2.out, below_then hb (below_then hx6 hbq)⟩
          case measure => simp [intOf]; omega
    · have hfin := ht.out
      rw [List.take_of_length_le (by omega)] at hfin
      have hF := Lib.hid hfin
      clear hfin
      go_wp2_with fail
      go_ret
      exact RetB.mk (by rw [hv.out, hF.out]) hxr
end Go.Proofs.Ytgoinmdnpaknpaa
