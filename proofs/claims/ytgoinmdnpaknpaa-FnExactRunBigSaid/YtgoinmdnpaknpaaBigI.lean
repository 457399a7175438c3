/- Programs done with fuel: an element of a slice of its own is set. Plain lemmas. -/
import Derived.Test.YtgoinmdnpaknpaaBigD
import Derived.Test.YtgoinmdnpaknpaaKit1
set_option linter.unusedVariables false
set_option linter.unusedSimpArgs false
namespace Go.Proofs.Ytgoinmdnpaknpaa
open Go.RowKit
theorem OwnSl.setInt {w : World} {e : TypeId} {F : List Nat} {A : Option Addr} {n c j : Nat} {l : List Int} {x : Int} (h : OwnSl intR w e F (.slice A n c) l) (hj : j < l.length) (hx : I64 x) :
    ∃ g, A = some ⟨g, 0, none⟩ ∧ n = l.length ∧ g ∈ F ∧ w.cell? ⟨g, j, none⟩ = some (.int .i64 l[j]) ∧ w.frozen? ⟨g, j, none⟩ = false ∧ g < w.heap.size ∧ OwnSl intR (w.setCell ⟨g, j, none⟩ (.int .i64 x)) e F (.slice A n c) (l.set j x) := by
  obtain ⟨g, pre, cs, post, Fj, rfl, hn, hpre, ⟨rfl, rfl, hi⟩, hrow, hg, _, _, hput⟩ := h.focus (by decide) hj
  have hpre' : pre.length = j := by rw [hpre]; show j * 1 = j; omega
  obtain ⟨b, o, hA, _, _, hc, _⟩ := h.sl.int_at (k := j) (by omega)
  injection hA with hA
  injection hA with h1 h2
  subst h1 h2
  rw [Nat.zero_add] at hc
  refine ⟨g, rfl, hn, hg, hc, ?_, World.block_lt_of_cell? w _ hc, hput _ [.int .i64 x] x ⟨rfl, rfl, hx⟩ ?_ (fun k _ hk _ => (Fr.setCell (p := ⟨g, j, none⟩) (Fr.refl [g] w) (List.mem_singleton.2 rfl) _).block k (h.lt k (by assumption)) (by simpa using hk))⟩
  · exact hrow.frozenAt j
  · have := rowSet (i := 0) hrow hpre' (by simp) (.int .i64 x)
    simpa using this
theorem Try.infoIntB : (Try.prog.info? 3).map (fun i => (i.zero, i.size, i.bytes)) = some (some (.int .i64 0), 1, 8) := by kernel_rfl
/-- A number more on a slice that owns its row: a step of a drawn region. -/
theorem step_intB {ops : Array Oper} {o : Oper} {a : Act} {w : World} {K : Act → World → Prop} {Q : Exit → Act → World → Prop} {E : Prop} (hgd : o.guard = none) (s x : Operand)
    (ho : o.op = .call { callee := .builtin .append, args := #[s, x], argTypes := #[37, 37] })
    (v : Value) (n : Nat) (l : List Int) (F : List Nat) (hs : a.eval s = v) (hn : l.length = n) (hown : OwnSl intR w 3 F v l) (X : Nat) (b : Int) (t : TypeId) (hx : a.eval x = .slice (some ⟨X, 0, none⟩) 1 1) (hX : w.heap[X]? = some (.cells #[.int .i64 b] t)) (hb : I64 b) (h63 : n + 1 ≤ 1099511627776)
    (h : ∀ A m c w' F', Hid (OwnSl intR w' 3 F' (.slice A m c) (l ++ [b])) → Fr v.ownBlock.toList w w' → Hid (∀ k, k ∈ F' → k ∈ F ∨ k = w.heap.size) → K (a.put o.dst (.slice A m c)) w') :
    if Region.wanted o (yielded ops a.tmps) = true then Oper.wp Try.prog o a w K Q else E := by
  obtain ⟨inf, hif, hz0, hz1, hz2⟩ := info_parts Try.infoIntB
  refine step_own1 w hgd s x _ ho intR 3 inf _ 1 8 Try.underlying37 hif hz0 hz1 hz2 rfl rfl (by decide) v n l F hs hn hown ⟨X, 0, none⟩ 1 [.int .i64 b] b [] hx (fun j u hj => ?_) ⟨rfl, rfl, hb⟩ (by intro u hu; simp at hu; subst hu; rfl) (fun k hk => by cases hk) h63 (by decide) ?_
  · exact World.news_of_block (fr := (0, 0)) hX j u (by simpa using hj)
  · intro v' w' F' h1 h2 h3
    obtain ⟨A, m, c, rfl, _⟩ := h1.form
    exact h A m c w' F' (Lib.hid h1) (grown_fr h2) (Lib.hid (fun k hk => by rcases h3 k hk with h | h | h; exact Or.inl h; cases h; exact Or.inr h))
theorem ownB_nd {α : Type} {Q : Rp α} {w : World} {e : TypeId} {F : List Nat} {v : Value} {l : List α} (h : OwnSl Q w e F v l) : F.Nodup := by
  obtain ⟨_, _, _, _, _, hn⟩ := h; exact hn
theorem Sep.parts {M : MCfg} {B : Nat} {Ft : List Nat} {c : Nat} {Fv Fo : List Nat} {y : Option Nat} (h : Sep M B Ft c Fv Fo y) : M.R ∉ Ft ∧ M.R ≠ c ∧ M.R ∉ Fv ∧ M.R ∉ Fo ∧ c ∉ Ft ∧ c ∉ Fv ∧ c ∉ Fo ∧ (∀ k, k ∈ Ft → k ∉ Fv ∧ k ∉ Fo) ∧ (∀ k, k ∈ Fv → k ∉ Fo) ∧ (∀ k, y = some k → k ≠ M.R ∧ k ≠ c ∧ k ∉ Ft ∧ k ∉ Fv ∧ k ∉ Fo) := by
  have h1 := h.nd
  unfold GB at h1
  rw [List.nodup_cons, List.nodup_append, List.nodup_cons, List.nodup_append, List.nodup_append] at h1
  obtain ⟨a1, a2, ⟨a3, a4, ⟨a5, a6, a7⟩, a8⟩, a9⟩ := h1
  simp only [List.mem_append, List.mem_cons, not_or, Option.mem_toList] at a1 a3
  refine ⟨a1.1, a1.2.1, a1.2.2.1, a1.2.2.2.1, fun hk => a9 c hk c (List.mem_cons_self ..) rfl, a3.1, a3.2.1, fun k hk => ⟨fun h => a9 k hk k (by simp [h]) rfl, fun h => a9 k hk k (by simp [h]) rfl⟩, fun k hk h => a8 k hk k (by simp [h]) rfl, fun k hk => ?_⟩
  subst hk
  exact ⟨fun e => a1.2.2.2.2 (by simp [e]), fun e => a3.2.2 (by simp [e]), fun h => a9 k h k (by simp) rfl, fun h => a8 k h k (by simp) rfl, fun h => a7 k h k (by simp) rfl⟩
/-- Two of the lists have got new blocks, from N on. -/
theorem Sep.grow {M : MCfg} {B : Nat} {Ft Ft' : List Nat} {c : Nat} {Fv Fo Fo' : List Nat} {y : Option Nat} {N : Nat} (h : Sep M B Ft c Fv Fo y) (ht : Ft'.Nodup) (hv : Fv.Nodup) (ho : Fo'.Nodup) (h1 : ∀ k, k ∈ Ft' → k ∈ Ft ∨ N ≤ k) (h2 : ∀ k, k ∈ Fo' → k ∈ Fo ∨ N ≤ k) (hd : ∀ k, k ∈ Ft' → N ≤ k → k ∉ Fo') (hlt : ∀ k, k ∈ GB M Ft c Fv Fo y → k < N) (hB : B ≤ N) : Sep M B Ft' c Fv Fo' y := by
  obtain ⟨p1, p2, p3, p4, p5, p6, p7, p8, p9, p10⟩ := h.parts
  have lR : M.R < N := hlt _ (by unfold GB; simp)
  have lc : c < N := hlt _ (by unfold GB; simp)
  have lv : ∀ k, k ∈ Fv → k < N := fun k hk => hlt k (by unfold GB; simp [hk])
  have ly : ∀ k, y = some k → k < N := fun k hk => hlt k (by unfold GB; simp [hk])
  refine ⟨?_, fun k hk => ?_⟩
  · unfold GB
    rw [List.nodup_cons, List.nodup_append, List.nodup_cons, List.nodup_append, List.nodup_append]
    simp only [List.mem_append, List.mem_cons, not_or, Option.mem_toList]
    refine ⟨⟨fun hk => ?_, p2, p3, fun hk => ?_, fun hk => (p10 _ hk).1 rfl⟩, ht, ⟨⟨p6, fun hk => ?_, fun hk => (p10 _ hk).2.1 rfl⟩, hv, ⟨ho, by cases y <;> simp, fun a ha b hb e => ?_⟩, fun a ha b hb e => ?_⟩, fun a ha b hb e => ?_⟩
    · rcases h1 _ hk with h | h
      · exact p1 h
      · omega
    · rcases h2 _ hk with h | h
      · exact p4 h
      · omega
    · rcases h2 _ hk with h | h
      · exact p7 h
      · omega
    · subst e
      rcases h2 _ ha with h | h
      · exact (p10 a (by simpa using hb)).2.2.2.2 h
      · have := ly a (by simpa using hb); omega
    · subst e
      rcases hb with hb | hb
      · rcases h2 _ hb with h | h
        · exact p9 a ha h
        · have := lv a ha; omega
      · exact (p10 a (by simpa using hb)).2.2.2.1 ha
    · subst e
      rcases h1 _ ha with g1 | g1
      · rcases hb with hb | hb | hb | hb
        · exact p5 (hb ▸ g1)
        · exact (p8 a g1).1 hb
        · rcases h2 _ hb with h3 | h3
          · exact (p8 a g1).2 h3
          · have := hlt a (by unfold GB; simp [g1]); omega
        · exact (p10 a (by simpa using hb)).2.2.1 g1
      · rcases hb with hb | hb | hb | hb
        · omega
        · have := lv a hb; omega
        · exact hd a ha g1 hb
        · have := ly a (by simpa using hb); omega
  · unfold GB at hk
    simp only [List.mem_cons, List.mem_append] at hk
    rcases hk with rfl | hk | rfl | hk | hk | hk
    · exact h.ge _ (by unfold GB; simp)
    · rcases h1 _ hk with h3 | h3
      · exact h.ge _ (by unfold GB; simp [h3])
      · omega
    · exact h.ge _ (by unfold GB; simp)
    · exact h.ge _ (by unfold GB; simp [hk])
    · rcases h2 _ hk with h3 | h3
      · exact h.ge _ (by unfold GB; simp [h3])
      · omega
    · exact h.ge _ (by unfold GB; simp [hk])
end Go.Proofs.Ytgoinmdnpaknpaa
