/- Programs done with fuel: what stays so. Plain law. -/
import Derived.Test.YtgoinmdnpaknpaaBigP
set_option linter.unusedVariables false
set_option linter.unusedSimpArgs false
namespace Go.Proofs.Ytgoinmdnpaknpaa
open Go.RowKit
/-- The tokens that are to come are good where there are c numbers on the pile, and leave one. -/
def toksOk (v : Int) (ps : List Int) : List Tok → Int → Prop
  | [], c => c = 1
  | t :: ts, c => tokB t v ps.length = true ∧ needF t ps ≤ c ∧ toksOk v ps ts (c + (1 - needF t ps))
theorem toksOk_of {v : Int} {ps : List Int} : ∀ (ts : List Tok) (h c h' c' : Int), ts.foldl (stepH v ps) (some (h, c)) = some (h', c') → c' = 1 → toksOk v ps ts c
  | [], h, c, h', c', e, e1 => by
    simp only [List.foldl_nil, Option.some.injEq, Prod.mk.injEq] at e
    show c = 1; omega
  | t :: ts, h, c, h', c', e, e1 => by
    rw [List.foldl_cons] at e
    by_cases hc : tokB t v ps.length = true ∧ ¬ c < needF t ps
    · have e2 : stepH v ps (some (h, c)) t = some (max h (c + (1 - needF t ps)), c + (1 - needF t ps)) := by unfold stepH; simp only; rw [if_pos hc]
      rw [e2] at e
      exact ⟨hc.1, by omega, toksOk_of ts _ _ _ _ e e1⟩
    · have e2 : stepH v ps (some (h, c)) t = none := by unfold stepH; simp only; rw [if_neg hc]
      rw [e2, foldH_none] at e
      cases e
theorem highF_ok {e : List Tok} {v : Int} {ps : List Int} (h : 0 < highF e v ps) : e.length ≤ 12 ∧ toksOk v ps e 0 := by
  unfold highF at h
  split at h
  · rename_i hl
    refine ⟨hl.2, ?_⟩
    cases hf : foldH v ps e with
    | none => rw [hf] at h; simp at h
    | some hc =>
      obtain ⟨h', c'⟩ := hc
      rw [hf] at h
      simp only at h
      split at h
      · rename_i e1; exact toksOk_of e 0 0 h' c' hf e1
      · omega
  · omega
/-- A good statement of a function with so many variables and statements, where the functions have these params. -/
structure StmtG (v : Int) (ps : List Int) (m : Nat) (s : Stmt) : Prop where
  kind : 1 ≤ s.1 ∧ s.1 ≤ 9
  ex : s.1 ≠ 3 → s.1 ≠ 6 → s.2.2.1.length ≤ 12 ∧ toksOk v ps s.2.2.1 0
  set_ : s.1 = 1 → 0 ≤ s.2.1 ∧ s.2.1 < v
  off : s.1 = 3 → 0 ≤ s.2.1 ∧ s.2.1 < ps.length ∧ ps.getD s.2.1.toNat 0 = 0
  blocks : ∀ n, n ∈ s.2.2.2.1 ∨ n ∈ s.2.2.2.2 → 0 ≤ n ∧ n < (m : Int)
structure FuncG (ps : List Int) (f : Func) : Prop where
  par : 0 ≤ f.1 ∧ f.1 ≤ 2
  vars : f.1 ≤ f.2.1 ∧ f.2.1 ≤ 6
  long : f.2.2.2.length ≤ 16
  body : ∀ n, n ∈ f.2.2.1 → 0 ≤ n ∧ n < (f.2.2.2.length : Int)
  bodyLen : f.2.2.1.length ≤ 16
  stmts : ∀ s, s ∈ f.2.2.2 → StmtG f.2.1 ps f.2.2.2.length s
/-- A good program. -/
structure CfgG (C : BCfg) : Prop where
  many : 1 ≤ C.p.length ∧ C.p.length ≤ 5
  needs : goodNeeds (paramsF C.p)
  first : (C.fn 0).1 = 0
  funcs : ∀ f, f ∈ C.p → FuncG (paramsF C.p) f
  ins : C.ins.length ≤ 10 ∧ ∀ n, n ∈ C.ins → I32 n
  most : 1 ≤ C.most ∧ C.most ≤ 12
theorem stmtG_of {v : Int} {ps : List Int} {ss : List Stmt} (ha : okAll ss) {s : Stmt} (hs : s ∈ ss) (h : stmtOkI v ps s = true) : StmtG v ps ss.length s := by
  obtain ⟨i, hi, he⟩ := List.getElem_of_mem hs
  have hb := ha i hi
  have e1 : thenOf ss (i : Int) = s.2.2.2.1 := by unfold thenOf; simp [hi, he]
  have e2 : elseOf ss (i : Int) = s.2.2.2.2 := by unfold elseOf; simp [hi, he]
  rw [e1, e2] at hb
  clear hs he e1 e2
  obtain ⟨k, n, ex, t, e⟩ := s
  unfold stmtOkI stmtI at h
  simp only [Bool.and_eq_true, decide_eq_true_eq] at h
  obtain ⟨h0, h⟩ := h
  have hbl : ∀ m, m ∈ t ∨ m ∈ e → 0 ≤ m ∧ m < (ss.length : Int) := by
    rintro m (hm | hm)
    · have := hb.1 m hm; omega
    · have := hb.2 m hm; omega
  split at h
  · cases h
  · rename_i hk
    have hk1 : inB k 1 9 = true := by
      cases h9 : inB k 1 9
      · exact absurd (Or.inl h9) hk
      · rfl
    have hk2 := inB_iff.1 hk1
    split at h
    · rename_i h3
      simp only [Bool.and_eq_true, Bool.or_eq_true, beq_iff_eq] at h
      refine ⟨hk2, fun h => absurd h3 h, fun h => by simp only at h; omega, fun _ => ?_, hbl⟩
      rcases h.2 with h | h
      · omega
      · have := inB_iff.1 h.1; simp only; exact ⟨by omega, by omega, h.2⟩
    · split at h
      · rename_i h6
        exact ⟨hk2, fun _ h => absurd h6 h, fun h => by simp only at h; omega, fun h => by simp only at h; omega, hbl⟩
      · split at h
        · rename_i h1
          simp only [Bool.and_eq_true, decide_eq_true_eq] at h
          have := inB_iff.1 h.1
          exact ⟨hk2, fun _ _ => highF_ok h.2, fun _ => by simp only; omega, fun h => by simp only at h; omega, hbl⟩
        · rename_i h1
          simp only [Bool.and_eq_true, decide_eq_true_eq, beq_iff_eq] at h
          exact ⟨hk2, fun _ _ => highF_ok h.2, fun h => absurd h h1, fun h => by simp only at h; omega, hbl⟩
theorem cfgG_of {fs : List Func} {ins : List Int} {most : Nat} (h : goodP fs = true) (hi : ins.length ≤ 10) (hs : ∀ n, n ∈ ins → I32 n) (hm : 1 ≤ most ∧ most ≤ 12) : CfgG ⟨fs, ins, most⟩ := by
  unfold goodP at h
  simp only [Bool.and_eq_true] at h
  obtain ⟨⟨⟨h1, h2⟩, h3⟩, h4⟩ := h
  have h1 := inB_iff.1 h1
  refine ⟨by simp only; omega, (parB_good h2).1, ?_, fun f hf => ?_, ⟨hi, hs⟩, hm⟩
  · have h5 : 0 < fs.length := by omega
    simp only [beq_iff_eq] at h3
    unfold BCfg.fn
    simp only [List.getD_eq_getElem?_getD, List.getElem?_eq_getElem h5, Option.getD_some]
    unfold paramsF at h3
    simpa [h5] using h3
  · have := List.all_eq_true.1 h4 f hf
    unfold funcOkI shapeI at this
    simp only [Bool.and_eq_true, decide_eq_true_eq] at this
    obtain ⟨⟨⟨⟨⟨⟨⟨⟨⟨g1, g2⟩, g3⟩, g4⟩, g5⟩, g6⟩, g7⟩, g8⟩, g9, g10⟩, g11⟩ := this
    have i1 := inB_iff.1 g1
    have i2 := inB_iff.1 g2
    have hb := inBs_ok (lo := 0) g7
    exact ⟨by omega, by omega, g3, fun n hn => by have := hb n hn; omega, by omega, fun s hs => stmtG_of (rangesB_ok g5) hs (List.all_eq_true.1 g11 s hs)⟩
/-! ### what stays so of a run -/
structure StOk (C : BCfg) (K : Nat) (st : BSt) : Prop where
  used : st.used ≤ C.ins.length
  long : st.tr.length + st.fuel ≤ K
  tr : ∀ n, n ∈ st.tr → I32 n
def ByOk (b : Option BEnd) : Prop := ∀ e, b = some e → (1 ≤ e.how ∧ e.how ≤ 3) ∧ I32 e.val
structure FrOk (C : BCfg) (v : Int) (fr : BFr) (fuel : Nat) : Prop where
  vars : fr.vars.length = v.toNat
  small : ∀ n, n ∈ fr.vars → I32 n
  long : fr.off.length + fuel ≤ 600
  off : ∀ g, g ∈ fr.off → 0 ≤ g ∧ g < C.p.length ∧ (C.fn g.toNat).1 = 0
  res : I32 fr.res
  by_ : ByOk fr.by_
def ResOk (r : BRes) : Prop := (0 ≤ r.1 ∧ r.1 ≤ 5) ∧ I32 r.2
theorem FrOk.less {C : BCfg} {v : Int} {fr : BFr} {k k' : Nat} (h : FrOk C v fr k) (hk : k' ≤ k) : FrOk C v fr k' := ⟨h.vars, h.small, by have := h.long; omega, h.off, h.res, h.by_⟩
theorem StOk.burn {C : BCfg} {K : Nat} {st : BSt} (h : StOk C K st) (hf : st.fuel ≠ 0) : StOk C (K - 1) { st with fuel := st.fuel - 1 } := ⟨h.used, by have := h.long; simp only; omega, h.tr⟩
theorem StOk.more {C : BCfg} {K K' : Nat} {st : BSt} (h : StOk C K st) (hk : K ≤ K') : StOk C K' st := ⟨h.used, by have := h.long; omega, h.tr⟩
/-- A call's result. -/
structure CallP (C : BCfg) (K : Nat) (st : BSt) (b : Option BEnd) (r : Int × BRes × Option BEnd × BSt) : Prop where
  sok : StOk C K r.2.2.2
  fuel : r.2.2.2.fuel ≤ st.fuel
  res : I32 r.1
  how : 1 ≤ r.2.1.1 ∧ r.2.1.1 ≤ 5
  val : I32 r.2.1.2
  by_ : ByOk r.2.2.1
  same : r.2.2.1.isSome = b.isSome
structure StmtP (C : BCfg) (K : Nat) (v : Int) (st : BSt) (fr : BFr) (r : BRes × BFr × BSt) : Prop where
  sok : StOk C K r.2.2
  fuel : r.2.2.fuel ≤ st.fuel
  how : ResOk r.1
  fok : FrOk C v r.2.1 r.2.2.fuel
  same : r.2.1.by_.isSome = fr.by_.isSome
def CallOk (C : BCfg) (call : CallF) (N : Nat) : Prop := ∀ K fn given deep b st, fn < C.p.length → given.length ≤ (C.fn fn).2.1.toNat → (∀ n, n ∈ given → I32 n) → ByOk b → StOk C K st → st.fuel ≤ N → CallP C K st b (call fn given deep b st)
def StmtOk (C : BCfg) (stmt : StmtF) (N : Nat) : Prop := ∀ K f s deep fr st, f ∈ C.p → StmtG f.2.1 (paramsF C.p) f.2.2.2.length s → FrOk C f.2.1 fr st.fuel → StOk C K st → st.fuel ≤ N → StmtP C K f.2.1 st fr (stmt f s deep fr st)
theorem recv_ok {b : Option BEnd} (h : ByOk b) : I32 (recv b).1 ∧ ByOk (recv b).2 ∧ (recv b).2.isSome = b.isSome := by
  have z : I32 0 := by unfold I32; omega
  cases b with
  | none => exact ⟨z, h, rfl⟩
  | some e =>
    have h1 := h e rfl
    unfold recv
    simp only
    by_cases h2 : e.how = 2
    · rw [if_pos h2]
      exact ⟨h1.2, fun e' he => by simp only [Option.some.injEq] at he; subst he; exact ⟨by simp only; split <;> omega, z⟩, rfl⟩
    · rw [if_neg h2]; exact ⟨z, h, rfl⟩
theorem fn_mem {C : BCfg} {k : Nat} (h : k < C.p.length) : C.fn k ∈ C.p ∧ (paramsF C.p).getD k 0 = (C.fn k).1 := by
  unfold BCfg.fn paramsF
  rw [List.getD_eq_getElem?_getD, List.getElem?_eq_getElem h, Option.getD_some]
  refine ⟨List.getElem_mem h, ?_⟩
  rw [List.getD_eq_getElem?_getD, List.getElem?_map, List.getElem?_eq_getElem h]; rfl
theorem stOf_mem {f : Func} {n : Int} (h : 0 ≤ n ∧ n < (f.2.2.2.length : Int)) : stOf f n ∈ f.2.2.2 := by
  unfold stOf
  rw [List.getD_eq_getElem?_getD, List.getElem?_eq_getElem (show n.toNat < f.2.2.2.length by omega), Option.getD_some]
  exact List.getElem_mem _
/-- What a token gives. -/
structure TokP (C : BCfg) (K : Nat) (v : Int) (c : Int) (st : BSt) (fr : BFr) (r : List Int × BRes × BFr × BSt) : Prop where
  sok : StOk C K r.2.2.2
  fuel : r.2.2.2.fuel ≤ st.fuel
  how : ResOk r.2.1
  fok : FrOk C v r.2.2.1 r.2.2.2.fuel
  same : r.2.2.1.by_.isSome = fr.by_.isSome
  len : r.2.1.1 = 0 → (r.1.length : Int) = c
  pile : r.2.1.1 = 0 → ∀ n, n ∈ r.1 → I32 n
theorem getD_small {l : List Int} {k : Nat} (h : ∀ n, n ∈ l → I32 n) : I32 (l.getD k 0) := by
  rw [List.getD_eq_getElem?_getD]
  cases e : l[k]? with
  | none => unfold I32; simp
  | some x => exact h x (List.mem_of_getElem? e)
theorem mem_snoc {P : Int → Prop} {l : List Int} {x : Int} (h : ∀ n, n ∈ l → P n) (hx : P x) : ∀ n, n ∈ l ++ [x] → P n := by
  intro n hn
  rcases List.mem_append.1 hn with hn | hn
  · exact h n hn
  · rw [List.mem_singleton.1 hn]; exact hx
theorem tok_ok {C : BCfg} (G : CfgG C) {call : CallF} {N K : Nat} (hc : CallOk C call N) {v : Int} {t : Tok} {deep : Nat} {pile : List Int} {fr : BFr} {st : BSt} (ht : tokB t v (paramsF C.p).length = true) (hn : needF t (paramsF C.p) ≤ pile.length)
    (hp : ∀ n, n ∈ pile → I32 n) (hf : FrOk C v fr st.fuel) (hs : StOk C K st) (hN : st.fuel ≤ N) : TokP C K v ((pile.length : Int) + (1 - needF t (paramsF C.p))) st fr (bTok C call deep t pile fr st) := by
  have z : ResOk (0, 0) := ⟨by simp, by unfold I32; simp⟩
  have z0 : I32 0 := by unfold I32; omega
  have e0 : inB t.1 3 8 = false → ¬ t.1 = 11 → needF t (paramsF C.p) = 0 := fun h1 h2 => by unfold needF; rw [if_neg h2, if_neg (by rw [h1]; simp)]
  have hl : ∀ x : Int, ((pile ++ [x]).length : Int) = (pile.length : Int) + 1 := fun x => by simp
  unfold bTok
  by_cases h1 : t.1 = 1
  · rw [if_pos h1]
    have hk := e0 (inB_false (by omega)) (by omega)
    have hx : I32 t.2 := by unfold tokB at ht; rw [if_pos h1] at ht; exact inB_iff.1 ht
    exact ⟨hs, Nat.le_refl _, z, hf, rfl, fun _ => by rw [hk]; simp only [hl]; omega, fun _ => mem_snoc hp hx⟩
  rw [if_neg h1]
  by_cases h2 : t.1 = 2
  · rw [if_pos h2]
    have hk := e0 (inB_false (by omega)) (by omega)
    exact ⟨hs, Nat.le_refl _, z, hf, rfl, fun _ => by rw [hk]; simp only [hl]; omega, fun _ => mem_snoc hp (getD_small hf.small)⟩
  rw [if_neg h2]
  by_cases h9 : t.1 = 9
  · rw [if_pos h9]
    have hk := e0 (inB_false (by omega)) (by omega)
    by_cases hu : st.used < C.ins.length
    · rw [if_pos hu]
      exact ⟨⟨by simp only; omega, hs.long, hs.tr⟩, Nat.le_refl _, z, hf, rfl, fun _ => by rw [hk]; simp only [hl]; omega, fun _ => mem_snoc hp (getD_small G.ins.2)⟩
    · rw [if_neg hu]
      exact ⟨hs, Nat.le_refl _, z, hf, rfl, fun _ => by rw [hk]; simp only [hl]; omega, fun _ => mem_snoc hp z0⟩
  rw [if_neg h9]
  by_cases h10 : t.1 = 10
  · rw [if_pos h10]
    have hk := e0 (inB_false (by omega)) (by omega)
    obtain ⟨r1, r2, r3⟩ := recv_ok hf.by_
    exact ⟨hs, Nat.le_refl _, z, ⟨hf.vars, hf.small, hf.long, hf.off, hf.res, r2⟩, r3, fun _ => by rw [hk]; simp only [hl]; omega, fun _ => mem_snoc hp r1⟩
  rw [if_neg h10]
  by_cases h11 : t.1 = 11
  · rw [if_pos h11]
    have hb := tokB_call ht h11
    have hfl : t.2.toNat < C.p.length := by have : (paramsF C.p).length = C.p.length := by simp [paramsF]
                                            omega
    obtain ⟨m1, m2⟩ := fn_mem hfl
    have hk : needF t (paramsF C.p) = (C.fn t.2.toNat).1 := by unfold needF; rw [if_pos h11, m2]
    have g := G.funcs _ m1
    rw [hk] at hn
    have hpar := g.par
    have hvar := g.vars
    obtain ⟨top, htop⟩ : ∃ top, pile.length - (C.fn t.2.toNat).1.toNat = top := ⟨_, rfl⟩
    simp only [htop]
    have P := hc K t.2.toNat (pile.drop top) (deep + 1) none st hfl (by rw [List.length_drop]; omega) (fun n hn => hp n (List.mem_of_mem_drop hn)) (fun e he => by cases he) hs hN
    obtain ⟨r, hr⟩ : ∃ r, call t.2.toNat (pile.drop top) (deep + 1) none st = r := ⟨_, rfl⟩
    rw [hr] at P ⊢
    by_cases hh : r.2.1.1 = 1
    · rw [if_pos hh]
      refine ⟨P.sok, P.fuel, z, hf.less P.fuel, rfl, fun _ => ?_, fun _ => mem_snoc (fun n hn => hp n (List.mem_of_mem_take hn)) P.res⟩
      rw [hk]; simp only [List.length_append, List.length_take, List.length_singleton]; omega
    · rw [if_neg hh]
      have := P.how
      exact ⟨P.sok, P.fuel, ⟨by simp only; omega, P.val⟩, hf.less P.fuel, rfl, fun h => by simp only at h; omega, fun h => by simp only at h; omega⟩
  rw [if_neg h11]
  have hk : needF t (paramsF C.p) = 2 := by
    unfold tokB at ht
    rw [if_neg h1, if_neg h2, if_neg h11, Bool.and_eq_true] at ht
    have := inB_iff.1 ht.1
    unfold needF
    rw [if_neg h11, if_pos (inB_true (by omega))]
  simp only
  by_cases hr : recB t.1 (pile.getD (pile.length - 2 + 1) 0) = true
  · rw [if_pos hr]
    refine ⟨hs, Nat.le_refl _, z, hf, rfl, fun _ => ?_, fun _ => mem_snoc (fun n hn => hp n (List.mem_of_mem_take hn)) (recN_small _ _ _)⟩
    rw [hk]; simp only [List.length_append, List.length_take, List.length_singleton]; omega
  · rw [if_neg hr]
    exact ⟨hs, Nat.le_refl _, ⟨by simp, by unfold I32; simp⟩, hf, rfl, fun h => by simp at h, fun h => by simp at h⟩
structure ExprP (C : BCfg) (K : Nat) (v : Int) (st : BSt) (fr : BFr) (r : Int × BRes × BFr × BSt) : Prop where
  sok : StOk C K r.2.2.2
  fuel : r.2.2.2.fuel ≤ st.fuel
  how : ResOk r.2.1
  fok : FrOk C v r.2.2.1 r.2.2.2.fuel
  same : r.2.2.1.by_.isSome = fr.by_.isSome
  val : I32 r.1
theorem expr_ok {C : BCfg} (G : CfgG C) {call : CallF} {N K : Nat} (hc : CallOk C call N) {v : Int} {deep : Nat} : ∀ (ts : List Tok) {pile : List Int} {fr : BFr} {st : BSt}, toksOk v (paramsF C.p) ts pile.length → (∀ n, n ∈ pile → I32 n) → FrOk C v fr st.fuel → StOk C K st → st.fuel ≤ N → ExprP C K v st fr (bExpr C call deep ts pile fr st)
  | [], pile, fr, st, ht, hp, hf, hs, hN => by
    unfold bExpr
    exact ⟨hs, Nat.le_refl _, ⟨by simp, by unfold I32; simp⟩, hf, rfl, getD_small hp⟩
  | t :: ts, pile, fr, st, ht, hp, hf, hs, hN => by
    obtain ⟨h1, h2, h3⟩ := ht
    have T := tok_ok G hc (deep := deep) h1 h2 hp hf hs hN
    unfold bExpr
    obtain ⟨r, hr⟩ : ∃ r, bTok C call deep t pile fr st = r := ⟨_, rfl⟩
    rw [hr] at T
    simp only [hr]
    by_cases h0 : r.2.1.1 = 0
    · rw [if_pos h0]
      have E := expr_ok G hc (deep := deep) ts (pile := r.1) (fr := r.2.2.1) (st := r.2.2.2) (by rw [T.len h0]; exact h3) (T.pile h0) T.fok T.sok (Nat.le_trans T.fuel hN)
      exact ⟨E.sok, Nat.le_trans E.fuel T.fuel, E.how, E.fok, E.same.trans T.same, E.val⟩
    · rw [if_neg h0]
      exact ⟨T.sok, T.fuel, T.how, T.fok, T.same, by unfold I32; simp⟩
theorem block_ok {C : BCfg} (G : CfgG C) {stmt : StmtF} {N K : Nat} (hc : StmtOk C stmt N) {f : Func} (hf : f ∈ C.p) {deep : Nat} : ∀ (ns : List Int) {fr : BFr} {st : BSt}, (∀ n, n ∈ ns → 0 ≤ n ∧ n < (f.2.2.2.length : Int)) → FrOk C f.2.1 fr st.fuel → StOk C K st → st.fuel ≤ N → StmtP C K f.2.1 st fr (bBlock stmt f deep ns fr st)
  | [], fr, st, hn, hf', hs, hN => by
    unfold bBlock
    exact ⟨hs, Nat.le_refl _, ⟨by simp, by unfold I32; simp⟩, hf', rfl⟩
  | n :: ns, fr, st, hn, hf', hs, hN => by
    have T := hc K f (stOf f n) deep fr st hf ((G.funcs f hf).stmts _ (stOf_mem (hn n (List.mem_cons_self ..)))) hf' hs hN
    unfold bBlock
    obtain ⟨r, hr⟩ : ∃ r, stmt f (stOf f n) deep fr st = r := ⟨_, rfl⟩
    rw [hr] at T
    simp only [hr]
    by_cases h0 : r.1.1 = 0
    · rw [if_pos h0]
      have E := block_ok G hc hf (deep := deep) ns (fr := r.2.1) (st := r.2.2) (fun m hm => hn m (List.mem_cons_of_mem _ hm)) T.fok T.sok (Nat.le_trans T.fuel hN)
      exact ⟨E.sok, Nat.le_trans E.fuel T.fuel, E.how, E.fok, E.same.trans T.same⟩
    · rw [if_neg h0]; exact T
theorem stmt_ok {C : BCfg} (G : CfgG C) {call : CallF} {stmt : StmtF} {N : Nat} (hc : CallOk C call N) (ht : StmtOk C stmt N) : StmtOk C (bStmt C call stmt) (N + 1) := by
  intro K f s deep fr st hf hg hfr hs hN
  have z : ResOk (0, 0) := ⟨by simp, by unfold I32; simp⟩
  have z0 : I32 0 := by unfold I32; omega
  unfold bStmt
  by_cases h0 : st.fuel = 0
  · rw [if_pos h0]
    exact ⟨hs, Nat.le_refl _, ⟨by simp, z0⟩, hfr, rfl⟩
  rw [if_neg h0]
  have hs1 := hs.burn h0
  have hl := hfr.long
  have hf1 : FrOk C f.2.1 fr (st.fuel - 1) := hfr.less (by omega)
  by_cases h3 : s.1 = 3
  · rw [if_pos h3]
    obtain ⟨g1, g2, g3⟩ := hg.off h3
    have hlen : (paramsF C.p).length = C.p.length := by simp [paramsF]
    refine ⟨hs1.more (Nat.sub_le _ _), by simp only; omega, z, ⟨hfr.vars, hfr.small, by simp only [List.length_append, List.length_singleton]; omega, ?_, hfr.res, hfr.by_⟩, rfl⟩
    intro g hg
    rcases List.mem_append.1 hg with hg | hg
    · exact hfr.off g hg
    · rw [List.mem_singleton.1 hg]
      exact ⟨g1, by omega, by rw [← (fn_mem (C := C) (k := s.2.1.toNat) (by omega)).2]; exact g3⟩
  rw [if_neg h3]
  by_cases h6 : s.1 = 6
  · rw [if_pos h6]
    exact ⟨hs1.more (Nat.sub_le _ _), by simp only; omega, ⟨by simp, z0⟩, hf1, rfl⟩
  rw [if_neg h6]
  have E := expr_ok G hc (v := f.2.1) (deep := deep) s.2.2.1 (pile := []) (fr := fr) (st := { st with fuel := st.fuel - 1 }) (hg.ex h3 h6).2 (fun n hn => by simp at hn) hf1 hs1 (by simp only; omega)
  obtain ⟨r, hr⟩ : ∃ r, bExpr C call deep s.2.2.1 [] fr { st with fuel := st.fuel - 1 } = r := ⟨_, rfl⟩
  rw [hr] at E
  simp only [hr]
  have eS : StOk C K r.2.2.2 := E.sok.more (Nat.sub_le _ _)
  have ef : r.2.2.2.fuel ≤ st.fuel := Nat.le_trans E.fuel (Nat.sub_le _ _)
  have ef1 : r.2.2.2.fuel ≤ N := Nat.le_trans E.fuel (by simp only; omega)
  by_cases e0 : r.2.1.1 = 0
  rotate_left
  · rw [if_neg e0]; exact ⟨eS, ef, E.how, E.fok, E.same⟩
  rw [if_pos e0]
  unfold bStmtE
  have block : ∀ (ns : List Int), (∀ n, n ∈ ns → n ∈ s.2.2.2.1 ∨ n ∈ s.2.2.2.2) → StmtP C K f.2.1 st fr (bBlock stmt f deep ns r.2.2.1 r.2.2.2) := fun ns hns => by
    have B := block_ok G ht hf (deep := deep) ns (fun n hn => hg.blocks n (hns n hn)) E.fok eS ef1
    exact ⟨B.sok, Nat.le_trans B.fuel ef, B.how, B.fok, B.same.trans E.same⟩
  by_cases k1 : s.1 = 1
  · rw [if_pos k1]
    refine ⟨eS, ef, z, ⟨by simp only [List.length_set]; exact E.fok.vars, fun n hn => ?_, E.fok.long, E.fok.off, E.fok.res, E.fok.by_⟩, E.same⟩
    rcases List.mem_or_eq_of_mem_set hn with hn | rfl
    · exact E.fok.small n hn
    · exact E.val
  rw [if_neg k1]
  by_cases k2 : s.1 = 2
  · rw [if_pos k2]
    have := E.sok.long
    have := hs.long
    exact ⟨⟨E.sok.used, by simp only [List.length_append, List.length_singleton]; omega, mem_snoc E.sok.tr E.val⟩, ef, z, E.fok, E.same⟩
  rw [if_neg k2]
  by_cases k4 : s.1 = 4
  · rw [if_pos k4]; exact ⟨eS, ef, ⟨by simp, E.val⟩, E.fok, E.same⟩
  rw [if_neg k4]
  by_cases k5 : s.1 = 5
  · rw [if_pos k5]; exact ⟨eS, ef, ⟨by simp, z0⟩, ⟨E.fok.vars, E.fok.small, E.fok.long, E.fok.off, E.val, E.fok.by_⟩, E.same⟩
  rw [if_neg k5]
  by_cases k7 : s.1 = 7
  · rw [if_pos k7]
    by_cases hn : r.1 = 0
    · rw [if_pos hn]; exact block _ fun n hn => Or.inr hn
    · rw [if_neg hn]; exact block _ fun n hn => Or.inl hn
  rw [if_neg k7]
  by_cases k8 : s.1 = 8
  · rw [if_pos k8]
    by_cases hn : r.1 = 0
    · rw [if_pos hn]; exact ⟨eS, ef, z, E.fok, E.same⟩
    · rw [if_neg hn]
      have B := block s.2.2.2.1 fun n hn => Or.inl hn
      have B1 := block_ok G ht hf (deep := deep) s.2.2.2.1 (fun n hn => hg.blocks n (Or.inl hn)) E.fok eS ef1
      obtain ⟨q, hq⟩ : ∃ q, bBlock stmt f deep s.2.2.2.1 r.2.2.1 r.2.2.2 = q := ⟨_, rfl⟩
      rw [hq] at B B1
      simp only [hq]
      by_cases hq0 : q.1.1 = 0
      · rw [if_pos hq0]
        have T := ht K f s deep q.2.1 q.2.2 hf hg B.fok B.sok (Nat.le_trans B1.fuel ef1)
        exact ⟨T.sok, Nat.le_trans T.fuel B.fuel, T.how, T.fok, T.same.trans B.same⟩
      · rw [if_neg hq0]; exact B
  · rw [if_neg k8]; exact ⟨eS, ef, z, E.fok, E.same⟩
theorem off_ok {C : BCfg} (G : CfgG C) {call : CallF} {N K : Nat} (hc : CallOk C call N) {deep : Nat} : ∀ (gs : List Int) {x : BEnd} {st : BSt}, (∀ g, g ∈ gs → 0 ≤ g ∧ g < C.p.length ∧ (C.fn g.toNat).1 = 0) → ByOk (some x) → StOk C K st → st.fuel ≤ N →
    StOk C K (bOff call deep gs x st).2.2 ∧ (bOff call deep gs x st).2.2.fuel ≤ st.fuel ∧ ByOk (some (bOff call deep gs x st).2.1) ∧ ((bOff call deep gs x st).1 = (0, 0) ∨ (4 ≤ (bOff call deep gs x st).1.1 ∧ (bOff call deep gs x st).1.1 ≤ 5)) ∧ I32 (bOff call deep gs x st).1.2
  | [], x, st, hg, hx, hs, hN => by
    unfold bOff
    exact ⟨hs, Nat.le_refl _, hx, Or.inl rfl, by unfold I32; simp⟩
  | g :: gs, x, st, hg, hx, hs, hN => by
    obtain ⟨g1, g2, g3⟩ := hg g (List.mem_cons_self ..)
    have P := hc K g.toNat [] (deep + 1) (some x) st (by omega) (by simp) (fun n hn => by simp at hn) hx hs hN
    unfold bOff
    obtain ⟨r, hr⟩ : ∃ r, call g.toNat [] (deep + 1) (some x) st = r := ⟨_, rfl⟩
    rw [hr] at P
    simp only [hr]
    have hsome := P.same
    obtain ⟨x', hx'⟩ : ∃ x', r.2.2.1 = some x' := by
      cases h : r.2.2.1 with
      | none => rw [h] at hsome; simp at hsome
      | some x' => exact ⟨x', rfl⟩
    have hb := P.by_
    rw [hx'] at hb ⊢
    simp only [Option.getD_some]
    have hh := P.how
    have next : ∀ y, ByOk (some y) → _ := fun y hy => off_ok G hc (deep := deep) gs (x := y) (st := r.2.2.2) (fun g hg' => hg g (List.mem_cons_of_mem _ hg')) hy P.sok (Nat.le_trans P.fuel hN)
    have z0 : I32 0 := by unfold I32; omega
    by_cases h1 : r.2.1.1 = 1
    · rw [if_pos h1]
      obtain ⟨a1, a2, a3⟩ := next x' hb
      exact ⟨a1, Nat.le_trans a2 P.fuel, a3⟩
    rw [if_neg h1]
    by_cases h2 : r.2.1.1 = 2
    · rw [if_pos h2]
      obtain ⟨a1, a2, a3⟩ := next ⟨2, r.2.1.2, x'.ex⟩ (fun e he => by simp only [Option.some.injEq] at he; subst he; exact ⟨by simp, P.val⟩)
      exact ⟨a1, Nat.le_trans a2 P.fuel, a3⟩
    rw [if_neg h2]
    by_cases h3 : r.2.1.1 = 3
    · rw [if_pos h3]
      obtain ⟨a1, a2, a3⟩ := next ⟨3, 0, true⟩ (fun e he => by simp only [Option.some.injEq] at he; subst he; exact ⟨by simp, z0⟩)
      exact ⟨a1, Nat.le_trans a2 P.fuel, a3⟩
    rw [if_neg h3]
    exact ⟨P.sok, P.fuel, hb, Or.inr (by simp only; omega), P.val⟩
theorem call_ok {C : BCfg} (G : CfgG C) {call : CallF} {stmt : StmtF} {N : Nat} (hc : CallOk C call N) (ht : StmtOk C stmt N) (h600 : N + 1 ≤ 600) : CallOk C (bCall C call stmt) (N + 1) := by
  intro K fn given deep b st hfn hgl hgs hb hs hN
  have z0 : I32 0 := by unfold I32; omega
  unfold bCall
  by_cases h0 : st.fuel = 0
  · rw [if_pos h0]
    exact ⟨hs, Nat.le_refl _, z0, by simp, z0, hb, rfl⟩
  rw [if_neg h0]
  by_cases hd : C.most < deep
  · rw [if_pos hd]
    exact ⟨hs, Nat.le_refl _, z0, by simp, z0, hb, rfl⟩
  rw [if_neg hd]
  obtain ⟨m1, m2⟩ := fn_mem hfn
  have g := G.funcs _ m1
  have hv := g.vars
  have hp := g.par
  have hs1 := hs.burn h0
  have hl := hs.long
  obtain ⟨f, hf⟩ : ∃ f, C.fn fn = f := ⟨_, rfl⟩
  rw [hf] at m1 m2 g hv hp hgl
  simp only [hf]
  have fr0 : FrOk C f.2.1 ⟨given ++ List.replicate (f.2.1.toNat - given.length) 0, [], 0, b⟩ (st.fuel - 1) := by
    refine ⟨by simp only [List.length_append, List.length_replicate]; omega, fun n hn => ?_, by simp only [List.length_nil]; omega, fun g hg => by simp at hg, z0, hb⟩
    rcases List.mem_append.1 hn with hn | hn
    · exact hgs n hn
    · rw [(List.mem_replicate.1 hn).2]; exact z0
  have Bk := block_ok G ht (K := K - 1) m1 (deep := deep) f.2.2.1 (fr := ⟨given ++ List.replicate (f.2.1.toNat - given.length) 0, [], 0, b⟩) (st := { st with fuel := st.fuel - 1 }) g.body fr0 hs1 (by simp only; omega)
  obtain ⟨r, hr⟩ : ∃ r, bBlock stmt f deep f.2.2.1 ⟨given ++ List.replicate (f.2.1.toNat - given.length) 0, [], 0, b⟩ { st with fuel := st.fuel - 1 } = r := ⟨_, rfl⟩
  rw [hr] at Bk
  simp only [hr]
  have bf : r.2.2.fuel ≤ st.fuel := Nat.le_trans Bk.fuel (Nat.sub_le _ _)
  have bn : r.2.2.fuel ≤ N := Nat.le_trans Bk.fuel (by simp only; omega)
  have bS : StOk C K r.2.2 := Bk.sok.more (Nat.sub_le _ _)
  obtain ⟨hh, hvl⟩ := Bk.how
  by_cases h4 : 4 ≤ r.1.1
  · rw [if_pos h4]
    exact ⟨bS, bf, z0, by simp only; omega, hvl, Bk.fok.by_, Bk.same⟩
  rw [if_neg h4]
  obtain ⟨how, hhow⟩ : ∃ how, (if r.1.1 = 0 then 1 else r.1.1) = how := ⟨_, rfl⟩
  simp only [hhow]
  have hw : 1 ≤ how ∧ how ≤ 3 := by rw [← hhow]; split <;> omega
  obtain ⟨o1, o2, o3, o4, o5⟩ := off_ok G hc (K := K) (deep := deep) r.2.1.off.reverse (x := ⟨how, r.1.2, how == 3⟩) (st := r.2.2) (fun g hg => Bk.fok.off g (List.mem_reverse.1 hg)) (fun e he => by simp only [Option.some.injEq] at he; subst he; exact ⟨hw, hvl⟩) bS bn
  obtain ⟨q, hq⟩ : ∃ q, bOff call deep r.2.1.off.reverse ⟨how, r.1.2, how == 3⟩ r.2.2 = q := ⟨_, rfl⟩
  rw [hq] at o1 o2 o3 o4 o5
  simp only [hq]
  have o6 := o3 q.2.1 rfl
  by_cases h0 : q.1.1 = 0
  · rw [if_pos h0]
    refine ⟨o1, Nat.le_trans o2 bf, ?_, by simp only; omega, o6.2, Bk.fok.by_, Bk.same⟩
    split
    · exact Bk.fok.res
    · exact z0
  · rw [if_neg h0]
    refine ⟨o1, Nat.le_trans o2 bf, z0, ?_, o5, Bk.fok.by_, Bk.same⟩
    rcases o4 with o4 | o4
    · rw [o4] at h0; exact absurd rfl h0
    · simp only; omega
theorem big_ok {C : BCfg} (G : CfgG C) : ∀ (N : Nat), N ≤ 600 → CallOk C (big C N).1 N ∧ StmtOk C (big C N).2 N
  | 0, _ => by
    have z0 : I32 0 := by unfold I32; omega
    exact ⟨fun K fn given deep b st h1 h2 h3 h4 h5 h6 => ⟨h5, Nat.le_refl _, z0, by simp [big], z0, h4, rfl⟩, fun K f s deep fr st h1 h2 h3 h4 h5 => ⟨h4, Nat.le_refl _, ⟨by simp [big], z0⟩, h3, rfl⟩⟩
  | N + 1, h => by
    obtain ⟨h1, h2⟩ := big_ok G N (by omega)
    exact ⟨call_ok G h1 h2 h, stmt_ok G h1 h2⟩
end Go.Proofs.Ytgoinmdnpaknpaa
