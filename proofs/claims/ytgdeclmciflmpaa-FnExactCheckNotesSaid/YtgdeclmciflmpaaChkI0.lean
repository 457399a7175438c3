/- What the program tells of one note: plain words for noteState.take. -/
import Derived.Test.YtgdeclmciflmpaaChkN
import Derived.Test.YtgdeclmciflmpaaHas
import Derived.Test.YtgdeclmciflmpaaOwnCut
import Derived.Test.YtgdeclmciflmpaaBlk
import Derived.Test.YtgdeclmciflmpaaRegCut
import Derived.Test.YtgdeclmciflmpaaKit1
import Derived.Deep.DeepCutAuto
import Derived.Deep.RegionHeld3
import Derived.Deep.QuietTactic
import Derived.BigQuiet
set_option linter.unusedVariables false
set_option linter.unusedSimpArgs false
set_option maxRecDepth 100000
namespace Go.Proofs.Ytgdeclmciflmpaa
open Go.RowKit
attribute [local irreducible] wpList
theorem code_k1 (o : Bool) (ps os : List Int) (id site : Int) : codeOf (false, o, ps, os) (1, id, site) = if ps.contains site = true then 2 else if o = true then 4 else 0 := by
  unfold codeOf; simp
theorem code_k2 (o : Bool) (ps os : List Int) (id site : Int) : codeOf (false, o, ps, os) (2, id, site) = if lastOk os site = true then 0 else 3 := by
  unfold codeOf; cases h : lastOk os site <;> simp [h]
theorem code_k3 (o : Bool) (ps os : List Int) (id site : Int) : codeOf (false, o, ps, os) (3, id, site) = if os.isEmpty = true then 0 else 5 := by
  unfold codeOf; cases os <;> simp
theorem code_e (o : Bool) (ps os : List Int) (n : Note) : codeOf (true, o, ps, os) n = 1 := by unfold codeOf; simp
theorem next_k1 (e o : Bool) (ps os : List Int) (id site : Int) : nextOf (e, o, ps, os) (1, id, site) = (e, o, ps ++ [site], os ++ [site]) := by unfold nextOf; simp
theorem next_k2 (e o : Bool) (ps os : List Int) (id site : Int) : nextOf (e, o, ps, os) (2, id, site) = (e, true, ps, os.dropLast) := by unfold nextOf; simp
theorem next_k3 (e o : Bool) (ps os : List Int) (id site : Int) : nextOf (e, o, ps, os) (3, id, site) = (true, o, ps, os) := by unfold nextOf; simp
/-- What is told of one id, in memory: its block, and the blocks of its lists. -/
def NSt (w : World) (b : Nat) (F : List Nat) (s : NtSt) : Prop :=
  ∃ vp vo Fp Fo, w.heap[b]? = some (.cells #[.bool s.1, .bool s.2.1, vp, vo] 87) ∧ OwnSl intR w 3 Fp vp s.2.2.1 ∧ OwnSl intR w 3 Fo vo s.2.2.2 ∧ F = b :: (Fp ++ Fo) ∧ F.Nodup
theorem NSt.lt {w : World} {b : Nat} {F : List Nat} {s : NtSt} (h : NSt w b F s) : ∀ k, k ∈ F → k < w.heap.size := by
  obtain ⟨vp, vo, Fp, Fo, hb, hp, ho, rfl, _⟩ := h
  intro k hk
  rcases List.mem_cons.1 hk with rfl | hk
  · exact (Array.getElem?_eq_some_iff.1 hb).1
  · rcases List.mem_append.1 hk with hk | hk
    · exact hp.lt k hk
    · exact ho.lt k hk
theorem NSt.fr {w w' : World} {b : Nat} {F G : List Nat} {s : NtSt} (h : NSt w b F s) (hf : Fr G w w') (hd : ∀ k, k ∈ F → k ∉ G) : NSt w' b F s := by
  have hlt := h.lt
  obtain ⟨vp, vo, Fp, Fo, hb, hp, ho, rfl, hn⟩ := h
  exact ⟨vp, vo, Fp, Fo, (hf.block b (hlt b (List.mem_cons_self ..)) (hd b (List.mem_cons_self ..))).trans hb, hp.fr hf fun k hk => hd k (List.mem_cons_of_mem _ (List.mem_append_left _ hk)), ho.fr hf fun k hk => hd k (List.mem_cons_of_mem _ (List.mem_append_right _ hk)), rfl, hn⟩
theorem NSt.mem {w : World} {b : Nat} {F : List Nat} {s : NtSt} (h : NSt w b F s) : b ∈ F := by
  obtain ⟨vp, vo, Fp, Fo, hb, hp, ho, rfl, _⟩ := h
  exact List.mem_cons_self ..
theorem NSt.nodup {w : World} {b : Nat} {F : List Nat} {s : NtSt} (h : NSt w b F s) : F.Nodup := by
  obtain ⟨vp, vo, Fp, Fo, hb, hp, ho, _, hn⟩ := h
  exact hn
/-- A new block of what is told of no note. -/
theorem NSt.new {w : World} {X : Nat} (h : w.heap[X]? = some (.cells #[.bool false, .bool false, .slice none 0 0, .slice none 0 0] 87)) : NSt w X [X] (false, false, [], []) :=
  ⟨_, _, [], [], h, OwnSl.nil_ .., OwnSl.nil_ .., rfl, by simp⟩
def RetTk (b : Nat) (F : List Nat) (s : NtSt) (n : Note) (w : World) (e : Ending) (w' : World) : Prop :=
  e = .returned (.int .i64 (codeOf s n)) ∧ Fr F w w' ∧ (codeOf s n = 0 → ∃ F', NSt w' b F' (nextOf s n) ∧ ∀ k, k ∈ F' → k ∈ F ∨ w.heap.size ≤ k)
/-- Between the loads and the stores: the block as it was, the two lists as they are by now; D: blocks that stand aside. -/
def TkI (w0 : World) (b : Nat) (F : List Nat) (o : Bool) (P0 O0 : Value) (D : List Nat) (V : World) (vp vo : Value) (ps os : List Int) : Prop :=
  ∃ Fp Fo, V.heap[b]? = some (.cells #[.bool false, .bool o, P0, O0] 87) ∧ OwnSl intR V 3 Fp vp ps ∧ OwnSl intR V 3 Fo vo os ∧ (b :: (Fp ++ Fo)).Nodup ∧ Fr F w0 V ∧ (∀ k, k ∈ b :: (Fp ++ Fo) → k ∈ F ∨ w0.heap.size ≤ k) ∧ ∀ k, k ∈ D → k < V.heap.size ∧ k ∉ b :: (Fp ++ Fo)
/-- A number more on a row: a step of a drawn region. -/
theorem step_intK {ops : Array Oper} {o : Oper} {a : Act} (w : World) {K : Act → World → Prop} {Q : Exit → Act → World → Prop} {E : Prop} (hgd : o.guard = none) (s x : Operand)
    (ho : o.op = .call { callee := .builtin .append, args := #[s, x], argTypes := #[30, 30] })
    (vf : Value) (n : Nat) (xs : List Value) (hs : a.eval s = vf) (hown : w.ownsRow 0 3 1 vf n xs) (X : Nat) (b : Int) (t : TypeId) (hx : a.eval x = .slice (some ⟨X, 0, none⟩) 1 1) (hX : w.heap[X]? = some (.cells #[.int .i64 b] t)) (hn : n ≤ 4000000)
    (h : ∀ Av nv cv wk, Hid (wk.ownsRow 0 3 1 (.slice Av nv cv) (n + 1) (xs ++ [.int .i64 b])) → Hid (w.grownBy wk vf.ownBlock) → Hid ((Value.slice Av nv cv).ownBlock = vf.ownBlock ∨ (Value.slice Av nv cv).ownBlock = some w.heap.size) → K (a.put o.dst (.slice Av nv cv)) wk) :
    if Region.wanted o (yielded ops a.tmps) = true then Oper.wp Try.prog o a w K Q else E := by
  obtain ⟨inf, hif, hz0, hz1, hz2⟩ := info_parts Try.infoInt
  refine step_append_src w hgd s x _ ho 0 3 inf _ 1 8 Try.underlying30 hif hz0 hz1 hz2 rfl (by decide) vf n xs hs hown (some ⟨X, 0, none⟩) 1 1 [.int .i64 b] hx ⟨rfl, (fun h => by cases h), fun ad e j u hu => ?_⟩ (by intro u hu; simp at hu; subst hu; rfl) (by unfold maxLen; omega) (by omega) (Nat.zero_le _) ?_
  · injection e with e
    subst e
    exact World.news_of_block (fr := (0, 0)) hX j u (by simpa using hu)
  · intro v' w' h2 h3 h4
    obtain ⟨A, m, c, rfl⟩ := slice_form h2
    exact h A m c w' (Lib.hid h2) (Lib.hid h3) (Lib.hid h4)
/-- A block of cells behind a store into one of them. -/
theorem heap_setCell {w : World} {b i : Nat} {cs : Array Value} {t : TypeId} {u : Value} (h : w.heap[b]? = some (.cells cs t)) : (w.setCell ⟨b, i, none⟩ u).heap[b]? = some (.cells (cs.setIfInBounds i u) t) := by
  unfold World.setCell
  simp only [Array.getElem?_modify, h]
  simp
section
variable {w0 V V' : World} {b : Nat} {F D : List Nat} {o : Bool} {P0 O0 vp vo : Value} {ps os : List Int}
theorem TkI.of (h : NSt V b F (false, o, ps, os)) : ∃ vp vo, TkI V b F o vp vo [] V vp vo ps os := by
  obtain ⟨vp, vo, Fp, Fo, hb, hp, ho, rfl, hn⟩ := h
  exact ⟨vp, vo, Fp, Fo, hb, hp, ho, hn, Fr.refl _ _, fun k hk => Or.inl hk, fun k hk => by cases hk⟩
theorem TkI.keep (h : TkI w0 b F o P0 O0 D V vp vo ps os) (hx : Below V.heap.size V V') : TkI w0 b F o P0 O0 D V' vp vo ps os := by
  obtain ⟨Fp, Fo, hb, hp, ho, hn, hf, hl, hd⟩ := h
  exact ⟨Fp, Fo, below_at hx (blk_size hb) hb, hp.below hx, ho.below hx, hn, hf.trans (Fr.of_below hx), hl, fun k hk => ⟨Nat.lt_of_lt_of_le (hd k hk).1 hx.size, (hd k hk).2⟩⟩
theorem TkI.aside (h : TkI w0 b F o P0 O0 D V vp vo ps os) (hx : Below V.heap.size V V') {k : Nat} (h1 : V.heap.size ≤ k) (h2 : k < V'.heap.size) : TkI w0 b F o P0 O0 (k :: D) V' vp vo ps os := by
  obtain ⟨Fp, Fo, hb, hp, ho, hn, hf, hl, hd⟩ := h
  have hlp := hp.lt
  have hlo := ho.lt
  have hbl := blk_size hb
  refine ⟨Fp, Fo, below_at hx hbl hb, hp.below hx, ho.below hx, hn, hf.trans (Fr.of_below hx), hl, fun j hj => ?_⟩
  rcases List.mem_cons.1 hj with rfl | hj
  · refine ⟨h2, fun hm => ?_⟩
    rcases List.mem_cons.1 hm with rfl | hm
    · omega
    · rcases List.mem_append.1 hm with hm | hm
      · have := hlp _ hm; omega
      · have := hlo _ hm; omega
  · exact ⟨Nat.lt_of_lt_of_le (hd j hj).1 hx.size, (hd j hj).2⟩
theorem TkI.hb (h : TkI w0 b F o P0 O0 D V vp vo ps os) : V.heap[b]? = some (.cells #[.bool false, .bool o, P0, O0] 87) := by
  obtain ⟨Fp, Fo, hb, _⟩ := h
  exact hb
theorem TkI.out (h : TkI w0 b F o P0 O0 D V vp vo ps os) {k : Nat} (hk : k ∈ D) : k < V.heap.size ∧ k ≠ b ∧ vp.ownBlock ≠ some k ∧ vo.ownBlock ≠ some k := by
  obtain ⟨Fp, Fo, hb, hp, ho, hn, hf, hl, hd⟩ := h
  obtain ⟨h1, h2⟩ := hd k hk
  exact ⟨h1, fun e => h2 (by rw [e]; exact List.mem_cons_self ..), fun e => h2 (List.mem_cons_of_mem _ (List.mem_append_left _ (hp.ownB k e))), fun e => h2 (List.mem_cons_of_mem _ (List.mem_append_right _ (ho.ownB k e)))⟩
/-- A number more on the first list. -/
theorem TkI.app1 (h : TkI w0 b F o P0 O0 D V vp vo ps os) : ∃ xs, V.ownsRow 0 3 1 vp ps.length xs ∧
    ∀ w' v' (x : Int), w'.ownsRow 0 3 1 v' (ps.length + 1) (xs ++ [.int .i64 x]) → V.grownBy w' vp.ownBlock → (v'.ownBlock = vp.ownBlock ∨ v'.ownBlock = some V.heap.size) → I64 x →
      TkI w0 b F o P0 O0 D w' v' vo (ps ++ [x]) os ∧ ∀ k, k ∈ D → w'.heap[k]? = V.heap[k]? := by
  obtain ⟨Fp, Fo, hb, hp, ho, hn, hf, hl, hd⟩ := h
  have hlp := hp.lt
  have hlo := ho.lt
  have hbl := blk_size hb
  obtain ⟨xs, hr, hmore⟩ := hp.grow
  refine ⟨xs, hr, fun w' v' x hr' hg hv hx => ?_⟩
  obtain ⟨Fp', hp', hF'⟩ := hmore w' v' [.int .i64 x] x [] hr' hg hv ⟨rfl, rfl, hx⟩ (by simp)
  rw [List.nodup_cons, List.nodup_append] at hn
  obtain ⟨n0, n1, n2, n3⟩ := hn
  have hob : ∀ g, vp.ownBlock = some g → g ∈ Fp := hp.ownB
  have hkeep : ∀ k, k < V.heap.size → k ∉ Fp → w'.heap[k]? = V.heap[k]? := fun k hk hk2 => hg.block k hk (fun e => hk2 (hob k e.symm))
  have hnew : ∀ k, k ∈ Fp' → k ∈ Fp ∨ k = V.heap.size := fun k hk => by
    rcases hF' k hk with h | h | h
    · exact Or.inl h
    · cases h
    · exact Or.inr h
  have hfr : Fr (b :: (Fp ++ Fo)) V w' := ⟨hg.os, hg.tape, hg.output, hg.size, fun k hk hk2 => hkeep k hk (fun e => hk2 (List.mem_cons_of_mem _ (List.mem_append_left _ e)))⟩
  refine ⟨⟨Fp', Fo, (hkeep b hbl (fun e => n0 (List.mem_append_left _ e))).trans hb, hp', ho.keep fun k hk => hkeep k (hlo k hk) (fun e => n3 k e k hk rfl), ?_, ?_, ?_, ?_⟩, ?_⟩
  · rw [List.nodup_cons, List.nodup_append]
    refine ⟨fun hm => ?_, hp'.nodup, n2, fun x hx y hy e => ?_⟩
    · rcases List.mem_append.1 hm with hm | hm
      · rcases hnew b hm with h | h
        · exact n0 (List.mem_append_left _ h)
        · omega
      · exact n0 (List.mem_append_right _ hm)
    · subst e
      rcases hnew x hx with h | h
      · exact n3 x h x hy rfl
      · have := hlo x hy; omega
  · exact ⟨hg.os.trans hf.os, hg.tape.trans hf.tape, hg.output.trans hf.output, Nat.le_trans hf.size hg.size, fun k hk hk2 => (hkeep k (Nat.lt_of_lt_of_le hk hf.size) (fun e => by
      rcases hl k (List.mem_cons_of_mem _ (List.mem_append_left _ e)) with h | h
      · exact hk2 h
      · omega)).trans (hf.block k hk hk2)⟩
  · intro k hk
    rcases List.mem_cons.1 hk with rfl | hk
    · exact hl k (List.mem_cons_self ..)
    · rcases List.mem_append.1 hk with hk | hk
      · rcases hnew k hk with h | h
        · exact hl k (List.mem_cons_of_mem _ (List.mem_append_left _ h))
        · have := hf.size; omega
      · exact hl k (List.mem_cons_of_mem _ (List.mem_append_right _ hk))
  · intro k hk
    obtain ⟨h1, h2⟩ := hd k hk
    refine ⟨Nat.lt_of_lt_of_le h1 hg.size, fun hm => ?_⟩
    rcases List.mem_cons.1 hm with rfl | hm
    · exact h2 (List.mem_cons_self ..)
    · rcases List.mem_append.1 hm with hm | hm
      · rcases hnew k hm with h | h
        · exact h2 (List.mem_cons_of_mem _ (List.mem_append_left _ h))
        · omega
      · exact h2 (List.mem_cons_of_mem _ (List.mem_append_right _ hm))
  · intro k hk
    obtain ⟨h1, h2⟩ := hd k hk
    exact hkeep k h1 (fun e => h2 (List.mem_cons_of_mem _ (List.mem_append_left _ e)))
/-- The two lists changed over. -/
theorem TkI.turn (h : TkI w0 b F o P0 O0 D V vp vo ps os) : TkI w0 b F o P0 O0 D V vo vp os ps := by
  obtain ⟨Fp, Fo, hb, hp, ho, hn, hf, hl, hd⟩ := h
  have e : ∀ k, k ∈ b :: (Fo ++ Fp) → k ∈ b :: (Fp ++ Fo) := fun k hk => by
    rcases List.mem_cons.1 hk with rfl | hk
    · exact List.mem_cons_self ..
    · rcases List.mem_append.1 hk with hk | hk
      · exact List.mem_cons_of_mem _ (List.mem_append_right _ hk)
      · exact List.mem_cons_of_mem _ (List.mem_append_left _ hk)
  refine ⟨Fo, Fp, hb, ho, hp, ?_, hf, fun k hk => hl k (e k hk), fun k hk => ⟨(hd k hk).1, fun hm => (hd k hk).2 (e k hm)⟩⟩
  rw [List.nodup_cons, List.nodup_append] at hn ⊢
  obtain ⟨n0, n1, n2, n3⟩ := hn
  exact ⟨fun hm => n0 (by rcases List.mem_append.1 hm with hm | hm; exact List.mem_append_right _ hm; exact List.mem_append_left _ hm), n2, n1, fun x hx y hy e => n3 y hy x hx e.symm⟩
/-- A number more on the second list. -/
theorem TkI.app2 (h : TkI w0 b F o P0 O0 D V vp vo ps os) : ∃ xs, V.ownsRow 0 3 1 vo os.length xs ∧
    ∀ w' v' (x : Int), w'.ownsRow 0 3 1 v' (os.length + 1) (xs ++ [.int .i64 x]) → V.grownBy w' vo.ownBlock → (v'.ownBlock = vo.ownBlock ∨ v'.ownBlock = some V.heap.size) → I64 x →
      TkI w0 b F o P0 O0 D w' vp v' ps (os ++ [x]) ∧ ∀ k, k ∈ D → w'.heap[k]? = V.heap[k]? := by
  obtain ⟨xs, h1, h2⟩ := h.turn.app1
  exact ⟨xs, h1, fun w' v' x a b' c d => ⟨(h2 w' v' x a b' c d).1.turn, (h2 w' v' x a b' c d).2⟩⟩
/-- The second list cut shorter. -/
theorem TkI.cut2 {g n c m : Nat} (h : TkI w0 b F o P0 O0 D V vp (.slice (some ⟨g, 0, none⟩) n c) ps os) (hm : m ≤ os.length) : TkI w0 b F o P0 O0 D V vp (.slice (some ⟨g, 0, none⟩) m c) ps (os.take m) := by
  obtain ⟨Fp, Fo, hb, hp, ho, hn, hf, hl, hd⟩ := h
  obtain ⟨Fo', ho', hs⟩ := ho.cut m hm
  have e : ∀ k, k ∈ b :: (Fp ++ Fo') → k ∈ b :: (Fp ++ Fo) := fun k hk => by
    rcases List.mem_cons.1 hk with rfl | hk
    · exact List.mem_cons_self ..
    · rcases List.mem_append.1 hk with hk | hk
      · exact List.mem_cons_of_mem _ (List.mem_append_left _ hk)
      · exact List.mem_cons_of_mem _ (List.mem_append_right _ (hs k hk))
  refine ⟨Fp, Fo', hb, hp, ho', ?_, hf, fun k hk => hl k (e k hk), fun k hk => ⟨(hd k hk).1, fun hm => (hd k hk).2 (e k hm)⟩⟩
  rw [List.nodup_cons, List.nodup_append] at hn ⊢
  obtain ⟨n0, n1, n2, n3⟩ := hn
  exact ⟨fun hm => n0 (by
    rcases List.mem_append.1 hm with hm | hm
    · exact List.mem_append_left _ hm
    · exact List.mem_append_right _ (hs b hm)), n1, ho'.nodup, fun x hx y hy => n3 x hx y (hs y hy)⟩
/-- Where a list that is not empty lies. -/
theorem own_at {w : World} {Fo : List Nat} {A : Option Addr} {m c : Nat} {l : List Int} (h : OwnSl intR w 3 Fo (.slice A (m + 1) c) l) : ∃ g, A = some ⟨g, 0, none⟩ ∧ m + 1 ≤ c ∧ c ≤ 9223372036854775807 := by
  obtain ⟨xs, hr, _⟩ := h.row
  rcases hr.2 with ⟨e, h0⟩ | ⟨g, cap, cur, e, hb, hg, hnc, hcm, _⟩
  · simp at e
  · injection e with e1 e2 e3
    subst e1 e3
    exact ⟨g, rfl, by omega, by unfold maxLen at hcm; omega⟩
/-- The stores are done. -/
theorem TkI.fin (h : TkI w0 b F o P0 O0 D V vp vo ps os) {w' : World} {e' o' : Bool} (hf : Fr [b] V w') (hb : w'.heap[b]? = some (.cells #[.bool e', .bool o', vp, vo] 87)) :
    Fr F w0 w' ∧ ∃ F', NSt w' b F' (e', o', ps, os) ∧ ∀ k, k ∈ F' → k ∈ F ∨ w0.heap.size ≤ k := by
  obtain ⟨Fp, Fo, hb0, hp, ho, hn, hfr, hl, hd⟩ := h
  have hn' := hn
  rw [List.nodup_cons] at hn'
  refine ⟨⟨hf.os.trans hfr.os, hf.tape.trans hfr.tape, hf.output.trans hfr.output, Nat.le_trans hfr.size hf.size, fun k hk hk2 => (hf.block k (Nat.lt_of_lt_of_le hk hfr.size) (fun e => by
    rw [List.mem_singleton] at e
    subst e
    rcases hl k (List.mem_cons_self ..) with h | h
    · exact hk2 h
    · omega)).trans (hfr.block k hk hk2)⟩, b :: (Fp ++ Fo), ⟨vp, vo, Fp, Fo, hb, hp.fr hf fun k hk e => ?_, ho.fr hf fun k hk e => ?_, rfl, hn⟩, hl⟩
  · rw [List.mem_singleton] at e; subst e; exact hn'.1 (List.mem_append_left _ hk)
  · rw [List.mem_singleton] at e; subst e; exact hn'.1 (List.mem_append_right _ hk)
end
end Go.Proofs.Ytgdeclmciflmpaa
