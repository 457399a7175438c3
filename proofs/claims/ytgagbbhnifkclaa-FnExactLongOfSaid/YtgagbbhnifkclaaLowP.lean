/- The code of a function. Plain law. -/
import Derived.Test.YtgagbbhnifkclaaPgP
import Derived.Test.YtgagbbhnifkclaaTyCode
set_option linter.unusedVariables false
set_option linter.unusedSimpArgs false
namespace Go.Proofs.Ytgagbbhnifkclaa
open Go.RowKit
def tokIns (t : Tok) : Ins := if t.1 = 1 then (1, t.2) else if t.1 = 2 then (2, t.2) else if t.1 = 11 then (7, t.2) else if t.1 = 9 then (5, 0) else if t.1 = 10 then (6, 0) else (4, t.1)
def exOf (ss : List Stmt) (n : Int) : List Tok := (ss[n.toNat]?.map fun s => s.2.2.1).getD []
def idxI (l : List Int) (n : Int) : Int := if n ∈ l then (l.idxOf n : Int) else -1
/-- The instructions of a statement at a place; blk: those of a block at a place. -/
def stmtC (ss : List Stmt) (blk : Nat → List Int → List Ins) (n : Int) (a : Nat) : List Ins :=
  let e := (exOf ss n).map tokIns
  let k := kindOf ss n
  if k = 1 then e ++ [(3, nOf ss n)]
  else if k = 2 then e ++ [(8, 0)]
  else if k = 9 then e ++ [(9, 0)]
  else if k = 4 then e ++ [(13, 0)]
  else if k = 5 then e ++ [(15, 0), (16, 0)]
  else if k = 6 then [(14, 0)]
  else if k = 3 then [(12, idxI (sitesF ss) n)]
  else
    let t := blk (a + e.length + 1) (thenOf ss n)
    let o := a + e.length + 1 + t.length + 1
    if k = 8 then e ++ ([(11, (o : Int))] ++ (t ++ [(10, (a : Int))]))
    else
      let r := blk o (elseOf ss n)
      e ++ ([(11, (o : Int))] ++ (t ++ ([(10, ((o + r.length : Nat) : Int))] ++ r)))
/-- The instructions of a block at a place (with so much fuel). -/
def codeB (ss : List Stmt) : Nat → Nat → List Int → List Ins
  | 0, _, _ => []
  | f + 1, a, b => b.foldl (fun out n => out ++ stmtC ss (codeB ss f) n (a + out.length)) []
theorem codeB_nil (ss : List Stmt) (f a : Nat) : codeB ss f a [] = [] := by cases f <;> rfl
theorem codeB_snoc (ss : List Stmt) (f a : Nat) (b : List Int) (n : Int) : codeB ss (f + 1) a (b ++ [n]) = codeB ss (f + 1) a b ++ stmtC ss (codeB ss f) n (a + (codeB ss (f + 1) a b).length) := by
  simp only [codeB, List.foldl_append, List.foldl_cons, List.foldl_nil]
theorem codeB_succ (ss : List Stmt) (f a : Nat) (b : List Int) (k : Nat) (hk : k < b.length) : codeB ss (f + 1) a (b.take (k + 1)) = codeB ss (f + 1) a (b.take k) ++ stmtC ss (codeB ss f) b[k] (a + (codeB ss (f + 1) a (b.take k)).length) := by
  rw [List.take_succ_eq_append_getElem hk, codeB_snoc]
/-- What is asked of a statement. -/
def lowS (s : Stmt) : Prop := (1 ≤ s.1 ∧ s.1 ≤ 9) ∧ ((s.1 = 3 ∨ s.1 = 6) → s.2.2.1 = []) ∧ s.2.2.1.length ≤ 12 ∧ (0 ≤ s.2.1 ∧ s.2.1 ≤ 100) ∧
  ∀ t, t ∈ s.2.2.1 → (0 ≤ t.1 ∧ t.1 ≤ 11) ∧ I64 t.2 ∧ ((t.1 = 9 ∨ t.1 = 10) → t.2 = 0)
def lowOk (ss : List Stmt) : Prop := ∀ s, s ∈ ss → lowS s
theorem exOf_at {ss : List Stmt} {k : Nat} (h : k < ss.length) : exOf ss (k : Int) = ss[k].2.2.1 ∧ kindOf ss (k : Int) = ss[k].1 ∧ nOf ss (k : Int) = ss[k].2.1 ∧ thenOf ss (k : Int) = ss[k].2.2.2.1 ∧ elseOf ss (k : Int) = ss[k].2.2.2.2 := by
  unfold exOf kindOf nOf thenOf elseOf
  simp only [Int.toNat_natCast, List.getElem?_eq_getElem h, Option.map_some, Option.getD_some, and_self]
theorem exOf_len {ss : List Stmt} (h : lowOk ss) (n : Int) : (exOf ss n).length ≤ 12 := by
  unfold exOf
  rcases e : ss[n.toNat]? with _ | s
  · simp
  · exact (h s (List.mem_of_getElem? e)).2.2.1
theorem stmtC_len {ss : List Stmt} {blk : Nat → List Int → List Ins} {n : Int} {a : Nat} (g : List Int → Nat) (hb : ∀ a b, (blk a b).length ≤ 15 * g b) (he : (exOf ss n).length ≤ 12) : (stmtC ss blk n a).length ≤ 15 * (1 + g (thenOf ss n) + g (elseOf ss n)) := by
  unfold stmtC
  dsimp only
  have e1 : ((exOf ss n).map tokIns).length ≤ 12 := by simpa using he
  generalize (exOf ss n).map tokIns = e at e1
  have t1 := hb (a + e.length + 1) (thenOf ss n)
  generalize blk (a + e.length + 1) (thenOf ss n) = t at t1
  have r1 := hb (a + e.length + 1 + t.length + 1) (elseOf ss n)
  generalize blk (a + e.length + 1 + t.length + 1) (elseOf ss n) = r at r1
  split <;> (try split) <;> (try split) <;> (try split) <;> (try split) <;> (try split) <;> (try split) <;> (try split) <;> simp only [List.length_append, List.length_cons, List.length_nil] <;> omega
theorem codeB_len {ss : List Stmt} (h : lowOk ss) : ∀ (f a : Nat) (b : List Int), (codeB ss f a b).length ≤ 15 * (ordF ss f b).length := by
  intro f
  induction f with
  | zero => intro a b; simp [codeB]
  | succ f ih =>
    intro a b
    have key : ∀ k, k ≤ b.length → (codeB ss (f + 1) a (b.take k)).length ≤ 15 * (ordF ss (f + 1) (b.take k)).length := by
      intro k
      induction k with
      | zero => intro _; simp [codeB_nil]
      | succ k ihk =>
        intro hk
        have h1 := ihk (by omega)
        have h2 := stmtC_len (a := a + (codeB ss (f + 1) a (b.take k)).length) (fun b => (ordF ss f b).length) ih (exOf_len h b[k])
        rw [codeB_succ ss f a b k (by omega), ordF_succ ss f b k (by omega)]
        simp only [List.length_append, List.length_cons, List.length_nil]
        omega
    have := key b.length (Nat.le_refl _)
    rwa [List.take_length] at this
def okI (x : Ins) : Prop := I64 x.1 ∧ I64 x.2
theorem tokIns_ok {t : Tok} (h : (0 ≤ t.1 ∧ t.1 ≤ 11) ∧ I64 t.2) : okI (tokIns t) := by
  unfold okI tokIns
  obtain ⟨h1, h2⟩ := h
  have h3 : I64 t.1 := by unfold I64; omega
  split
  · exact ⟨by unfold I64; omega, h2⟩
  · split
    · exact ⟨by unfold I64; omega, h2⟩
    · split
      · exact ⟨by unfold I64; omega, h2⟩
      · split
        · exact ⟨by unfold I64; omega, by unfold I64; simp⟩
        · split
          · exact ⟨by unfold I64; omega, by unfold I64; simp⟩
          · exact ⟨by unfold I64; omega, h3⟩
theorem ex_ok {ss : List Stmt} (h : lowOk ss) (n : Int) : ∀ x, x ∈ (exOf ss n).map tokIns → okI x := by
  intro x hx
  obtain ⟨t, ht, rfl⟩ := List.mem_map.1 hx
  unfold exOf at ht
  rcases e : ss[n.toNat]? with _ | s
  · rw [e] at ht; simp at ht
  · rw [e] at ht
    have := (h s (List.mem_of_getElem? e)).2.2.2.2 t ht
    exact tokIns_ok ⟨this.1, this.2.1⟩
theorem idxI_ok {l : List Int} {n : Int} (h : l.length ≤ 1099511627776) : I64 (idxI l n) := by
  unfold idxI I64
  split
  · rename_i hm
    have := List.idxOf_lt_length_iff.2 hm
    omega
  · omega
theorem nOf_ok {ss : List Stmt} (h : lowOk ss) (n : Int) : 0 ≤ nOf ss n ∧ nOf ss n ≤ 100 := by
  unfold nOf
  rcases e : ss[n.toNat]? with _ | s
  · simp
  · exact (h s (List.mem_of_getElem? e)).2.2.2.1
theorem stmtC_ok {ss : List Stmt} (h : lowOk ss) (hs : ss.length ≤ 1099511627776) {blk : Nat → List Int → List Ins} {n : Int} {a : Nat} (hb : ∀ a b, a + (blk a b).length ≤ 1099511627776 → ∀ x, x ∈ blk a b → okI x) (hl : a + (stmtC ss blk n a).length ≤ 1099511627776) : ∀ x, x ∈ stmtC ss blk n a → okI x := by
  have e1 := ex_ok h n
  have hsi := idxI_ok (n := n) (Nat.le_trans (sitesF_len ss) hs)
  have hn := nOf_ok h n
  have hn2 : I64 (nOf ss n) := by unfold I64; omega
  have sm : ∀ i j : Int, (0 ≤ i ∧ i ≤ 20) → I64 j → okI (i, j) := fun i j h1 h2 => ⟨by unfold I64; show _ ≤ i ∧ i ≤ _; omega, h2⟩
  have z : I64 0 := by unfold I64; omega
  unfold stmtC at hl ⊢
  dsimp only at hl ⊢
  generalize (exOf ss n).map tokIns = e at e1 hl
  have t1 := hb (a + e.length + 1) (thenOf ss n)
  generalize blk (a + e.length + 1) (thenOf ss n) = t at t1 hl
  have r1 := hb (a + e.length + 1 + t.length + 1) (elseOf ss n)
  generalize blk (a + e.length + 1 + t.length + 1) (elseOf ss n) = r at r1 hl
  intro x hx
  split at hx
  · rcases List.mem_append.1 hx with hx | hx
    · exact e1 x hx
    · simp at hx; subst hx; exact sm _ _ (by omega) hn2
  rename_i h1
  rw [if_neg h1] at hl
  split at hx
  · rcases List.mem_append.1 hx with hx | hx
    · exact e1 x hx
    · simp at hx; subst hx; exact sm _ _ (by omega) z
  rename_i h2
  rw [if_neg h2] at hl
  split at hx
  · rcases List.mem_append.1 hx with hx | hx
    · exact e1 x hx
    · simp at hx; subst hx; exact sm _ _ (by omega) z
  rename_i h3
  rw [if_neg h3] at hl
  split at hx
  · rcases List.mem_append.1 hx with hx | hx
    · exact e1 x hx
    · simp at hx; subst hx; exact sm _ _ (by omega) z
  rename_i h4
  rw [if_neg h4] at hl
  split at hx
  · rcases List.mem_append.1 hx with hx | hx
    · exact e1 x hx
    · simp at hx; rcases hx with rfl | rfl <;> exact sm _ _ (by omega) z
  rename_i h5
  rw [if_neg h5] at hl
  split at hx
  · simp at hx; subst hx; exact sm _ _ (by omega) z
  rename_i h6
  rw [if_neg h6] at hl
  split at hx
  · simp at hx; subst hx; exact sm _ _ (by omega) hsi
  rename_i h7
  rw [if_neg h7] at hl
  split at hx
  · rename_i h8
    rw [if_pos h8] at hl
    simp only [List.length_append, List.length_cons, List.length_nil] at hl
    simp only [List.mem_append, List.mem_singleton] at hx
    rcases hx with hx | rfl | hx | rfl
    · exact e1 x hx
    · exact sm _ _ (by omega) (by unfold I64; omega)
    · exact t1 (by omega) x hx
    · exact sm _ _ (by omega) (by unfold I64; omega)
  · rename_i h8
    rw [if_neg h8] at hl
    simp only [List.length_append, List.length_cons, List.length_nil] at hl
    simp only [List.mem_append, List.mem_singleton] at hx
    rcases hx with hx | rfl | hx | rfl | hx
    · exact e1 x hx
    · exact sm _ _ (by omega) (by unfold I64; omega)
    · exact t1 (by omega) x hx
    · exact sm _ _ (by omega) (by unfold I64; omega)
    · exact r1 (by omega) x hx
theorem codeB_ok {ss : List Stmt} (h : lowOk ss) (hs : ss.length ≤ 1099511627776) : ∀ (f a : Nat) (b : List Int), a + (codeB ss f a b).length ≤ 1099511627776 → ∀ x, x ∈ codeB ss f a b → okI x := by
  intro f
  induction f with
  | zero => intro a b _ x hx; simp [codeB] at hx
  | succ f ih =>
    intro a b hl
    have key : ∀ k, k ≤ b.length → a + (codeB ss (f + 1) a (b.take k)).length ≤ 1099511627776 → ∀ x, x ∈ codeB ss (f + 1) a (b.take k) → okI x := by
      intro k
      induction k with
      | zero => intro _ _ x hx; simp [codeB_nil] at hx
      | succ k ihk =>
        intro hk hl x hx
        rw [codeB_succ ss f a b k (by omega)] at hx hl
        rw [List.length_append] at hl
        rcases List.mem_append.1 hx with hx | hx
        · exact ihk (by omega) (by omega) x hx
        · exact stmtC_ok h hs ih (by omega) x hx
    have := key b.length (Nat.le_refl _)
    rw [List.take_length] at this
    exact this hl
theorem codeB_take_le (ss : List Stmt) (f a : Nat) (b : List Int) : ∀ k, (codeB ss f a (b.take k)).length ≤ (codeB ss f a b).length := by
  intro k
  cases f with
  | zero => simp [codeB]
  | succ f =>
    have step : ∀ d, k + d ≤ b.length → (codeB ss (f + 1) a (b.take k)).length ≤ (codeB ss (f + 1) a (b.take (k + d))).length := by
      intro d
      induction d with
      | zero => intro _; exact Nat.le_refl _
      | succ d ih =>
        intro hd
        have := ih (by omega)
        rw [show k + (d + 1) = (k + d) + 1 by omega, codeB_succ ss f a b (k + d) (by omega), List.length_append]; omega
    by_cases hk : k ≤ b.length
    · have := step (b.length - k) (by omega)
      rwa [show k + (b.length - k) = b.length by omega, List.take_length] at this
    · rw [List.take_of_length_le (by omega)]; exact Nat.le_refl _
section
variable {ss : List Stmt} {blk : Nat → List Int → List Ins} {n : Int} {a : Nat} {ex : List Tok} {y : Int} {s3 s4 : List Int}
theorem stmtC_1 (h : kindOf ss n = 1) (he : exOf ss n = ex) (hy : nOf ss n = y) : stmtC ss blk n a = ex.map tokIns ++ [(3, y)] := by unfold stmtC; simp [h, he, hy]
theorem stmtC_2 (h : kindOf ss n = 2) (he : exOf ss n = ex) : stmtC ss blk n a = ex.map tokIns ++ [(8, 0)] := by unfold stmtC; simp [h, he]
theorem stmtC_9 (h : kindOf ss n = 9) (he : exOf ss n = ex) : stmtC ss blk n a = ex.map tokIns ++ [(9, 0)] := by unfold stmtC; simp [h, he]
theorem stmtC_4 (h : kindOf ss n = 4) (he : exOf ss n = ex) : stmtC ss blk n a = ex.map tokIns ++ [(13, 0)] := by unfold stmtC; simp [h, he]
theorem stmtC_5 (h : kindOf ss n = 5) (he : exOf ss n = ex) : stmtC ss blk n a = ex.map tokIns ++ [(15, 0), (16, 0)] := by unfold stmtC; simp [h, he]
theorem stmtC_6 (h : kindOf ss n = 6) : stmtC ss blk n a = [(14, 0)] := by unfold stmtC; simp [h]
theorem stmtC_3 (h : kindOf ss n = 3) : stmtC ss blk n a = [(12, idxI (sitesF ss) n)] := by unfold stmtC; simp [h]
theorem stmtC_8 (h : kindOf ss n = 8) (he : exOf ss n = ex) (ht : thenOf ss n = s3) {i2 i4 : Nat} (h2 : a + ex.length + 1 = i2) (h4 : i2 + (blk i2 s3).length + 1 = i4) : stmtC ss blk n a = ex.map tokIns ++ ([(11, (i4 : Int))] ++ (blk i2 s3 ++ [(10, (a : Int))])) := by
  subst h2 h4; unfold stmtC; simp [h, he, ht]
theorem stmtC_7 (h : kindOf ss n = 7) (he : exOf ss n = ex) (ht : thenOf ss n = s3) (hf : elseOf ss n = s4) {i2 i4 i5 : Nat} (h2 : a + ex.length + 1 = i2) (h4 : i2 + (blk i2 s3).length + 1 = i4) (h5 : i4 + (blk i4 s4).length = i5) : stmtC ss blk n a = ex.map tokIns ++ ([(11, (i4 : Int))] ++ (blk i2 s3 ++ ([(10, (i5 : Int))] ++ blk i4 s4))) := by
  subst h2 h4 h5; unfold stmtC; simp [h, he, ht, hf]
end
/-- A code's rows: the whole, then one for each site. -/
def padI (pad : Nat) (m : Nat) : List Ins := (List.range m).map fun (i : Nat) => (17, ((m - 1 - i : Nat) : Int))
def padR (pad : Nat) (m : Nat) : List Row := (List.range m).map fun (i : Nat) => (((pad + i : Nat) : Int), ((pad + i + 1 : Nat) : Int), ((pad + i + 1 : Nat) : Int))
/-- The code of a function. -/
def lowF (f : Func) : Code :=
  let b := codeB f.2.2.2 (f.2.2.2.length + 1) 0 f.2.2.1 ++ [(16, 0)]
  let m := (sitesF f.2.2.2).length
  (f.1, f.2.1, (sitesF f.2.2.2).map (nOf f.2.2.2), b ++ (padI b.length m ++ [(18, 0)]), (0, ((b.length : Nat) : Int), ((b.length : Nat) : Int)) :: padR b.length m)
def lowB (f : Func) : Bool := decide ((lowF f).2.2.2.1.length ≤ 300)
/-- What a good program says of a function. -/
theorem highF_toks {e : List Tok} {v : Int} {ps : List Int} (h : 0 < highF e v ps) : e.length ≤ 12 ∧ ∀ t, t ∈ e → tokB t v ps.length = true := by
  have hl : 1 ≤ e.length ∧ e.length ≤ 12 := by
    unfold highF at h
    split at h
    · assumption
    · omega
  refine ⟨hl.2, fun t ht => ?_⟩
  obtain ⟨k, hk, rfl⟩ := List.getElem_of_mem ht
  have h1 : foldH v ps (e.take (k + 1)) ≠ none := fun hn => by have := highF_dead (k := k + 1) hn; omega
  rw [foldH_succ hk] at h1
  unfold stepH at h1
  split at h1
  · exact absurd rfl h1
  · split at h1
    · rename_i hc; exact hc.1
    · exact absurd rfl h1
theorem tokB_low {t : Tok} {v f : Int} (hv : v ≤ 100) (hf : f ≤ 100) (h : tokB t v f = true) : (0 ≤ t.1 ∧ t.1 ≤ 11) ∧ I64 t.2 ∧ ((t.1 = 9 ∨ t.1 = 10) → t.2 = 0) := by
  unfold tokB at h
  split at h
  · rename_i h1
    have := inB_iff.1 h
    exact ⟨by omega, by unfold I64; omega, by omega⟩
  · split at h
    · have := inB_iff.1 h
      exact ⟨by omega, by unfold I64; omega, by omega⟩
    · split at h
      · have := inB_iff.1 h
        exact ⟨by omega, by unfold I64; omega, by omega⟩
      · rw [Bool.and_eq_true, beq_iff_eq] at h
        have := inB_iff.1 h.1
        exact ⟨by omega, by unfold I64; omega, fun _ => h.2⟩
theorem stmtOk_low {v : Int} {ps : List Int} {s : Stmt} (hv : v ≤ 100) (hp : ps.length ≤ 100) (h : stmtOkI v ps s = true) : lowS s := by
  obtain ⟨k, n, ex, t, e⟩ := s
  unfold stmtOkI at h
  simp only [Bool.and_eq_true, decide_eq_true_eq] at h
  obtain ⟨h0, h⟩ := h
  have hex : 0 < highF ex v ps → ex.length ≤ 12 ∧ ∀ t, t ∈ ex → (0 ≤ t.1 ∧ t.1 ≤ 11) ∧ I64 t.2 ∧ ((t.1 = 9 ∨ t.1 = 10) → t.2 = 0) := fun h => ⟨(highF_toks h).1, fun t ht => tokB_low hv (by omega) ((highF_toks h).2 t ht)⟩
  unfold stmtI at h
  unfold lowS
  simp only
  by_cases hk : inB k 1 9 = true
  rotate_left
  · rw [if_pos (Or.inl (by simpa using hk))] at h; cases h
  have hk' := inB_iff.1 hk
  split at h
  · cases h
  · split at h
    · rename_i h3
      simp only [Bool.and_eq_true, Bool.or_eq_true, beq_iff_eq] at h
      obtain rfl : ex = [] := List.eq_nil_of_length_eq_zero h.1
      refine ⟨hk', fun _ => rfl, by simp, ?_, fun t ht => by simp at ht⟩
      rcases h.2 with h | h
      · omega
      · have := inB_iff.1 h.1; omega
    · split at h
      · simp only [Bool.and_eq_true, beq_iff_eq] at h
        obtain rfl : ex = [] := List.eq_nil_of_length_eq_zero h.1
        exact ⟨hk', fun _ => rfl, by simp, by omega, fun t ht => by simp at ht⟩
      · split at h
        · simp only [Bool.and_eq_true, decide_eq_true_eq] at h
          have := inB_iff.1 h.1
          have he := hex h.2
          exact ⟨hk', by omega, he.1, by omega, he.2⟩
        · simp only [Bool.and_eq_true, decide_eq_true_eq, beq_iff_eq] at h
          have he := hex h.2
          exact ⟨hk', by omega, he.1, by omega, he.2⟩
structure LowF (f : Func) : Prop where
  all : okAll f.2.2.2
  body : okB f.2.2.2 0 f.2.2.1
  ok : lowOk f.2.2.2
  long : f.2.2.2.length ≤ 16
  ord : (ordA f.2.2.2 f.2.2.1).length = f.2.2.2.length
  sites : (sitesF f.2.2.2).length ≤ 4
  par : 0 ≤ f.1 ∧ f.1 ≤ 2
  vars : f.1 ≤ f.2.1 ∧ f.2.1 ≤ 6
theorem goodP_low {fs : List Func} (h : goodP fs = true) : (1 ≤ fs.length ∧ fs.length ≤ 5) ∧ ∀ f, f ∈ fs → LowF f := by
  unfold goodP at h
  simp only [Bool.and_eq_true] at h
  obtain ⟨⟨⟨h1, h2⟩, h3⟩, h4⟩ := h
  have h1 := inB_iff.1 h1
  refine ⟨by omega, fun f hf => ?_⟩
  have := List.all_eq_true.1 h4 f hf
  have hpl : (paramsF fs).length ≤ 100 := by simp [paramsF]; omega
  unfold funcOkI shapeI at this
  simp only [Bool.and_eq_true, decide_eq_true_eq] at this
  obtain ⟨⟨⟨⟨⟨⟨⟨⟨⟨g1, g2⟩, g3⟩, g4⟩, g5⟩, g6⟩, g7⟩, g8⟩, g9, g10⟩, g11⟩ := this
  have i1 := inB_iff.1 g1
  have i2 := inB_iff.1 g2
  exact ⟨rangesB_ok g5, inBs_ok (lo := 0) g7, fun s hs => stmtOk_low (by omega) hpl (List.all_eq_true.1 g11 s hs), g3, g9, g4, by omega, by omega⟩
theorem codeB_long {f : Func} (h : LowF f) : (codeB f.2.2.2 (f.2.2.2.length + 1) 0 f.2.2.1).length ≤ 240 := by
  have h1 := codeB_len h.ok (f.2.2.2.length + 1) 0 f.2.2.1
  have h2 := h.ord
  unfold ordA at h2
  have := h.long
  omega
theorem idxOf_take {l : List Int} {n : Int} {k : Nat} (hk : k < l.length) (h : ¬ n ∈ l.take k) (he : l[k] = n) : idxI l n = (k : Int) := by
  have hm : n ∈ l := he ▸ List.getElem_mem hk
  unfold idxI
  rw [if_pos hm]
  have e : l = l.take k ++ l[k] :: l.drop (k + 1) := by simp
  congr 1
  conv => lhs; rw [e]
  rw [List.idxOf_append, if_neg h, he, List.idxOf_cons_self, List.length_take]
  omega
theorem set_mid {α : Type} (a b : List α) (x y : α) {i : Nat} (h : i = a.length) : (a ++ ([x] ++ b)).set i y = a ++ ([y] ++ b) := by
  subst h; simp
end Go.Proofs.Ytgagbbhnifkclaa
