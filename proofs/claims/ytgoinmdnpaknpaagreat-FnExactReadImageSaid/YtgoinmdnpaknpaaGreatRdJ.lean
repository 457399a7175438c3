/- Codes read back: what lies in memory meanwhile. Plain lemmas. -/
import Derived.Test.YtgoinmdnpaknpaaGreatRdH
import Derived.Test.YtgoinmdnpaknpaaGreatTyIm
import Derived.Test.YtgoinmdnpaknpaaGreatRegCut
set_option linter.unusedVariables false
set_option linter.unusedSimpArgs false
set_option maxRecDepth 100000
namespace Go.Proofs.YtgoinmdnpaknpaaGreat
open Go.RowKit
/-- A code in block C. -/
def CdB (w : World) (C : Nat) (n0 n1 : Int) (v2 v3 v4 : Value) : Prop := w.heap[C]? = some (.cells #[.int .i64 n0, .int .i64 n1, v2, v3, v4] 39)
theorem CdB.cells {w : World} {C : Nat} {n0 n1 : Int} {v2 v3 v4 : Value} (h : CdB w C n0 n1 v2 v3 v4) : w.cell? ⟨C, 0, none⟩ = some (.int .i64 n0) ∧ w.cell? ⟨C, 1, none⟩ = some (.int .i64 n1) ∧ w.cell? ⟨C, 2, none⟩ = some v2 ∧ w.cell? ⟨C, 3, none⟩ = some v3 ∧ w.cell? ⟨C, 4, none⟩ = some v4 :=
  ⟨by rw [cell_of_row _ _ _ _ _ _ h]; rfl, by rw [cell_of_row _ _ _ _ _ _ h]; rfl, by rw [cell_of_row _ _ _ _ _ _ h]; rfl, by rw [cell_of_row _ _ _ _ _ _ h]; rfl, by rw [cell_of_row _ _ _ _ _ _ h]; rfl⟩
theorem CdB.other {w : World} {C : Nat} {n0 n1 : Int} {v2 v3 v4 : Value} (h : CdB w C n0 n1 v2 v3 v4) {p : Addr} (hp : p.block ≠ C) (v : Value) : CdB (w.setCell p v) C n0 n1 v2 v3 v4 := by
  unfold CdB World.setCell
  simp only [Array.getElem?_modify, if_neg hp]
  exact h
theorem CdB.put2 {w : World} {C : Nat} {n0 n1 : Int} {v2 v3 v4 u : Value} (h : CdB w C n0 n1 v2 v3 v4) : CdB (w.setCell ⟨C, 2, none⟩ u) C n0 n1 u v3 v4 := by unfold CdB; rw [heap_put h]; rfl
theorem CdB.put3 {w : World} {C : Nat} {n0 n1 : Int} {v2 v3 v4 u : Value} (h : CdB w C n0 n1 v2 v3 v4) : CdB (w.setCell ⟨C, 3, none⟩ u) C n0 n1 v2 u v4 := by unfold CdB; rw [heap_put h]; rfl
theorem CdB.put4 {w : World} {C : Nat} {n0 n1 : Int} {v2 v3 v4 u : Value} (h : CdB w C n0 n1 v2 v3 v4) : CdB (w.setCell ⟨C, 4, none⟩ u) C n0 n1 v2 v3 u := by unfold CdB; rw [heap_put h]; rfl
theorem CdB.all {w : World} {C : Nat} {m0 m1 n0 n1 : Int} {u2 u3 u4 v2 v3 v4 : Value} (h : CdB w C m0 m1 u2 u3 u4) : CdB (((((w.setCell ⟨C, 0, none⟩ (.int .i64 n0)).setCell ⟨C, 1, none⟩ (.int .i64 n1)).setCell ⟨C, 2, none⟩ v2).setCell ⟨C, 3, none⟩ v3).setCell ⟨C, 4, none⟩ v4) C n0 n1 v2 v3 v4 := by
  unfold CdB; rw [heap_put (heap_put (heap_put (heap_put (heap_put h))))]; rfl
/-- The result's block R, the reader in B, the code that is made in C. -/
structure LSt (w V : World) (R B C : Nat) (T : TypeId) (s : ByteArray) (x : Int) (ok : Bool) (n0 n1 : Int) (v2 v3 v4 : Value) : Prop where
  bl : Below w.heap.size w V
  at_ : w.heap.size ≤ R ∧ R < B ∧ B < C
  rd : RdrB V B T s x ok
  cd : CdB V C n0 n1 v2 v3 v4
  rz : CdB V R 0 0 (.slice none 0 0) (.slice none 0 0) (.slice none 0 0)
section
variable {w V V' : World} {R B C : Nat} {T : TypeId} {s : ByteArray} {x x' : Int} {ok ok' : Bool} {n0 n1 : Int} {v2 v3 v4 : Value}
theorem LSt.num (h : LSt w V R B C T s x ok n0 n1 v2 v3 v4) (hf : Fr [B] V V') (hr : RdrB V' B T s x' ok') : LSt w V' R B C T s x' ok' n0 n1 v2 v3 v4 := by
  have := h.at_
  exact ⟨below_fr h.bl hf (fun k hk => by simp at hk; omega), h.at_, hr, fr_at hf (by simp; omega) h.cd, fr_at hf (by simp; omega) h.rz⟩
theorem LSt.fr (h : LSt w V R B C T s x ok n0 n1 v2 v3 v4) {G : List Nat} (hf : Fr G V V') (hG : ∀ k, k ∈ G → C < k) : LSt w V' R B C T s x ok n0 n1 v2 v3 v4 := by
  have := h.at_
  exact ⟨below_fr h.bl hf (fun k hk => by have := hG k hk; omega), h.at_, fr_at hf (fun hk => by have := hG _ hk; omega) h.rd, fr_at hf (fun hk => by have := hG _ hk; omega) h.cd, fr_at hf (fun hk => by have := hG _ hk; omega) h.rz⟩
theorem LSt.below (h : LSt w V R B C T s x ok n0 n1 v2 v3 v4) (hb : Below V.heap.size V V') : LSt w V' R B C T s x ok n0 n1 v2 v3 v4 := h.fr (G := []) (Fr.of_below hb) (by simp)
theorem LSt.put2 (h : LSt w V R B C T s x ok n0 n1 v2 v3 v4) (u : Value) : LSt w (V.setCell ⟨C, 2, none⟩ u) R B C T s x ok n0 n1 u v3 v4 := by
  have := h.at_
  exact ⟨h.bl.setCell (p := ⟨C, 2, none⟩) (by simp only; omega) u, h.at_, h.rd.other (by simp; omega) _, h.cd.put2, h.rz.other (by simp; omega) _⟩
theorem LSt.put3 (h : LSt w V R B C T s x ok n0 n1 v2 v3 v4) (u : Value) : LSt w (V.setCell ⟨C, 3, none⟩ u) R B C T s x ok n0 n1 v2 u v4 := by
  have := h.at_
  exact ⟨h.bl.setCell (p := ⟨C, 3, none⟩) (by simp only; omega) u, h.at_, h.rd.other (by simp; omega) _, h.cd.put3, h.rz.other (by simp; omega) _⟩
theorem LSt.put4 (h : LSt w V R B C T s x ok n0 n1 v2 v3 v4) (u : Value) : LSt w (V.setCell ⟨C, 4, none⟩ u) R B C T s x ok n0 n1 v2 v3 u := by
  have := h.at_
  exact ⟨h.bl.setCell (p := ⟨C, 4, none⟩) (by simp only; omega) u, h.at_, h.rd.other (by simp; omega) _, h.cd.put4, h.rz.other (by simp; omega) _⟩
/-- The reader and the result stand, the code is made. -/
theorem LSt.new {w1 : World} (hb : Below w.heap.size w w1) (hR : w.heap.size ≤ R) (hRB : R < B) (hr : RdrB w1 B T s x ok) (hz : CdB w1 R 0 0 (.slice none 0 0) (.slice none 0 0) (.slice none 0 0)) (hC : w1.heap.size = C) :
    LSt w (w1.alloc (.cells #[.int .i64 n0, .int .i64 n1, .slice none 0 0, .slice none 0 0, .slice none 0 0] 39)) R B C T s x ok n0 n1 (.slice none 0 0) (.slice none 0 0) (.slice none 0 0) := by
  have h1 : Below w1.heap.size w1 (w1.alloc (.cells #[.int .i64 n0, .int .i64 n1, .slice none 0 0, .slice none 0 0, .slice none 0 0] 39)) := by exact belA
  have h2 := blk_size hr
  exact ⟨below_then hb h1, ⟨hR, hRB, by omega⟩, hr.below h1, alloc_new' hC, below_at h1 (blk_size hz) hz⟩
end
theorem Tryz.infoIntR : (Tryz.prog.info? 3).map (fun i => (i.zero, i.size, i.bytes)) = some (some (.int .i64 0), 1, 8) := by kernel_rfl
/-- A number more on a slice that owns its row: a step of a drawn region. -/
theorem step_intO {ops : Array Oper} {o : Oper} {a : Act} {w : World} {K : Act → World → Prop} {Q : Exit → Act → World → Prop} {E : Prop} (hgd : o.guard = none) (s x : Operand)
    (ho : o.op = .call { callee := .builtin .append, args := #[s, x], argTypes := #[35, 35] })
    (v : Value) (n : Nat) (l : List Int) (F : List Nat) (hs : a.eval s = v) (hn : l.length = n) (hown : OwnSl intR w 3 F v l) (X : Nat) (b : Int) (t : TypeId) (hx : a.eval x = .slice (some ⟨X, 0, none⟩) 1 1) (hX : w.heap[X]? = some (.cells #[.int .i64 b] t)) (hb : I64 b) (h63 : n + 1 ≤ 1099511627776)
    (h : ∀ A m c w' F', Hid (OwnSl intR w' 3 F' (.slice A m c) (l ++ [b])) → Fr v.ownBlock.toList w w' → Hid (∀ k, k ∈ F' → k ∈ F ∨ k = w.heap.size) → K (a.put o.dst (.slice A m c)) w') :
    if Region.wanted o (yielded ops a.tmps) = true then Oper.wp Tryz.prog o a w K Q else E := by
  obtain ⟨inf, hif, hz0, hz1, hz2⟩ := info_parts Tryz.infoIntR
  refine step_own1 w hgd s x _ ho intR 3 inf _ 1 8 Tryz.underlying35 hif hz0 hz1 hz2 rfl rfl (by decide) v n l F hs hn hown ⟨X, 0, none⟩ 1 [.int .i64 b] b [] hx (fun j u hj => ?_) ⟨rfl, rfl, hb⟩ (by intro u hu; simp at hu; subst hu; rfl) (fun k hk => by cases hk) h63 (by decide) ?_
  · exact World.news_of_block (fr := (0, 0)) hX j u (by simpa using hj)
  · intro v' w' F' h1 h2 h3
    obtain ⟨A, m, c, rfl, _⟩ := h1.form
    exact h A m c w' F' (Lib.hid h1) (grown_fr h2) (Lib.hid (fun k hk => by rcases h3 k hk with h | h | h; exact Or.inl h; cases h; exact Or.inr h))
end Go.Proofs.YtgoinmdnpaknpaaGreat
