/- The program's map of what is told of each id: memory words for CheckNotes. -/
import Derived.Test.YtgdeclmciflmpaaChkI0
import Derived.Test.YtgdeclmciflmpaaMapN
set_option linter.unusedVariables false
set_option linter.unusedSimpArgs false
set_option maxRecDepth 100000
namespace Go.Proofs.Ytgdeclmciflmpaa
open Go.RowKit
theorem idKeyed : Go.Maps.Keyed Try.prog 3 := Go.Maps.int_keyed Try.underlying3
theorem idKey {id : Int} (h : I64 id) : keyOf Try.prog 3 (.int .i64 id) = some (.int .i64 id) := Go.Maps.keyOf_int_mk Try.underlying3 (by
  have e1 : IntKind.i64.min = -9223372036854775808 := rfl
  have e2 : IntKind.i64.max = 9223372036854775807 := rfl
  unfold I64 at h
  simp only [Lit.wf, e1, e2, Bool.and_eq_true, decide_eq_true_eq]
  omega)
theorem ptrZero (w : World) : (zeroValue 85).run Try.prog w = .ok (.pointer none) w := rfl
/-- Block M of w maps each id that has a note in l to what is told of it. -/
def IdsIs (w : World) (B M : Nat) (l : List Note) (Es : List (Int × Nat × List Nat)) : Prop :=
  MapIs Try.prog 3 w M (Es.map fun e => (Value.int .i64 e.1, Value.pointer (some ⟨e.2.1, 0, none⟩))) ∧ (∀ e, e ∈ Es → NSt w e.2.1 e.2.2 (stOf l e.1)) ∧
    (M :: (Es.map fun e => e.2.2).flatten).Nodup ∧ (∀ k, k ∈ M :: (Es.map fun e => e.2.2).flatten → B ≤ k) ∧ (∀ n, n ∈ l → ∃ e, e ∈ Es ∧ e.1 = n.2.1) ∧ (Es.map fun e => e.1).Nodup
section
variable {w w' : World} {B M : Nat} {l : List Note} {Es : List (Int × Nat × List Nat)}
theorem IdsIs.made {w : World} {B : Nat} (h : B ≤ w.heap.size) : IdsIs (w.alloc (.map #[] 0)) B w.heap.size [] [] := by
  refine ⟨MapIs.made _ _ w, ?_, ?_, ?_, ?_, ?_⟩
  · intro e he; cases he
  · simp
  · intro k hk; simp at hk; omega
  · intro n hn; cases hn
  · simp
theorem IdsIs.lt (h : IdsIs w B M l Es) : ∀ k, k ∈ M :: (Es.map fun e => e.2.2).flatten → k < w.heap.size := fun k hk => by
  rcases List.mem_cons.1 hk with rfl | hk
  · exact h.1.lt
  · obtain ⟨F, hF, hkF⟩ := List.mem_flatten.1 hk
    obtain ⟨e, he, rfl⟩ := List.mem_map.1 hF
    exact (h.2.1 e he).lt k hkF
theorem IdsIs.keep (h : IdsIs w B M l Es) (hb : Below w.heap.size w w') : IdsIs w' B M l Es :=
  ⟨h.1.keep (hb.block M h.1.lt), fun e he => (h.2.1 e he).fr (Fr.of_below hb : Fr [] w w') (fun k _ hx => by cases hx), h.2.2⟩
theorem IdsIs.look (h : IdsIs w B M l Es) {id : Int} (hi : I64 id) :
    ((Instr.lookup 84 (.map (some M)) (.int .i64 id) false).run Try.prog w = .ok (.pointer none) w ∧ ∀ e, e ∈ Es → e.1 ≠ id) ∨
    ∃ pre b F post, Es = pre ++ (id, b, F) :: post ∧ (Instr.lookup 84 (.map (some M)) (.int .i64 id) false).run Try.prog w = .ok (.pointer (some ⟨b, 0, none⟩)) w := by
  rcases h.1.look idKeyed Try.underlying84 (ptrZero w) (idKey hi) with ⟨h1, h2⟩ | ⟨v, h1, h2⟩
  · refine Or.inl ⟨h1, fun e he hx => h2 _ (List.mem_map.2 ⟨e, he, rfl⟩) (by rw [hx])⟩
  · obtain ⟨e, he, hv⟩ := List.mem_map.1 h1
    obtain ⟨pre, post, hE⟩ := List.append_of_mem he
    obtain ⟨e1, b, F⟩ := e
    simp only [Prod.mk.injEq, Value.int.injEq, true_and] at hv
    obtain ⟨rfl, rfl⟩ := hv
    exact Or.inr ⟨pre, b, F, post, hE, h2⟩
/-- A new id. -/
theorem IdsIs.new (h : IdsIs w B M l Es) {id : Int} (hi : I64 id) (hno : ∀ e, e ∈ Es → e.1 ≠ id) {X : Nat} (hX : NSt w X [X] (false, false, [], [])) (hXB : B ≤ X) (hXn : X ∉ M :: (Es.map fun e => e.2.2).flatten) :
    ∃ w', (Instr.mapUpdate 84 (.map (some M)) (.int .i64 id) (.pointer (some ⟨X, 0, none⟩))).run Try.prog w = .ok () w' ∧ IdsIs w' B M l (Es ++ (id, X, [X]) :: []) ∧ Fr [M] w w' := by
  have hst : stOf l id = (false, false, [], []) := st_none fun n hn hx => by
    obtain ⟨e, he, h1⟩ := h.2.2.2.2.1 n hn
    exact hno e he (h1.trans hx)
  obtain ⟨w', h1, h2, h3⟩ := h.1.new idKeyed Try.underlying84 (idKey hi) (fun p hp hx => by
    obtain ⟨e, he, rfl⟩ := List.mem_map.1 hp
    simp only [Value.int.injEq, true_and] at hx
    exact hno e he hx) (.pointer (some ⟨X, 0, none⟩))
  obtain ⟨_, g1, g2, g3, g4, g5⟩ := h
  have hfl : ((Es ++ [(id, X, [X])]).map fun e => e.2.2).flatten = (Es.map fun e => e.2.2).flatten ++ [X] := by simp
  rw [List.mem_cons, not_or] at hXn
  have g2' := g2
  rw [List.nodup_cons] at g2
  refine ⟨w', h1, ⟨by rw [List.map_append]; exact h2, fun e he => ?_, ?_, ?_, fun n hn => ?_, ?_⟩, h3⟩
  · rcases List.mem_append.1 he with he | he
    · exact (g1 e he).fr h3 fun k hk hx => by
        rw [List.mem_singleton] at hx
        subst hx
        exact g2.1 (List.mem_flatten.2 ⟨_, List.mem_map.2 ⟨e, he, rfl⟩, hk⟩)
    · rw [List.mem_singleton] at he
      subst he
      simp only
      rw [hst]
      exact hX.fr h3 fun k hk hx => by
        rw [List.mem_singleton] at hk hx
        exact hXn.1 (hk.symm.trans hx)
  · rw [hfl, List.nodup_cons, List.nodup_append]
    refine ⟨fun hm => ?_, g2.2, by simp, fun x hx y hy e => ?_⟩
    · rcases List.mem_append.1 hm with hm | hm
      · exact g2.1 hm
      · rw [List.mem_singleton] at hm; exact hXn.1 hm.symm
    · rw [List.mem_singleton] at hy
      subst e hy
      exact hXn.2 hx
  · intro k hk
    rw [hfl] at hk
    rcases List.mem_cons.1 hk with rfl | hk
    · exact g3 _ (List.mem_cons_self ..)
    · rcases List.mem_append.1 hk with hk | hk
      · exact g3 k (List.mem_cons_of_mem _ hk)
      · rw [List.mem_singleton] at hk; subst hk; exact hXB
  · obtain ⟨e, he, h⟩ := g4 n hn
    exact ⟨e, List.mem_append_left _ he, h⟩
  · rw [List.map_append, List.nodup_append]
    refine ⟨g5, by simp, fun x hx y hy e => ?_⟩
    obtain ⟨z, hz, rfl⟩ := List.mem_map.1 hx
    simp only [List.map_cons, List.map_nil, List.mem_singleton] at hy
    exact hno z hz (e.trans hy)
/-- One note more is told. -/
theorem IdsIs.step {pre post : List (Int × Nat × List Nat)} {id : Int} {b : Nat} {F F' : List Nat} {n : Note} (h : IdsIs w B M l (pre ++ (id, b, F) :: post)) (hid : n.2.1 = id) (hf : Fr F w w') (hs : NSt w' b F' (stOf (l ++ [n]) id)) (hF : ∀ k, k ∈ F' → k ∈ F ∨ w.heap.size ≤ k) (hB : B ≤ w.heap.size) :
    IdsIs w' B M (l ++ [n]) (pre ++ (id, b, F') :: post) := by
  have hlt := h.lt
  obtain ⟨g0, g1, g2, g3, g4, g5⟩ := h
  have hfl : ∀ G : List Nat, ((pre ++ (id, b, G) :: post).map fun e => e.2.2).flatten = (pre.map fun e => e.2.2).flatten ++ (G ++ (post.map fun e => e.2.2).flatten) := fun G => by simp
  rw [hfl] at g2 g3 hlt
  have hmF : ∀ k, k ∈ F → k ∈ M :: ((pre.map fun e => e.2.2).flatten ++ (F ++ (post.map fun e => e.2.2).flatten)) := fun k hk => List.mem_cons_of_mem _ (List.mem_append_right _ (List.mem_append_left _ hk))
  have g2' := g2
  rw [List.nodup_cons, List.nodup_append, List.nodup_append] at g2
  obtain ⟨n0, n1, ⟨n2, n3, n4⟩, n5⟩ := g2
  have hpre : ∀ e, e ∈ pre → ∀ k, k ∈ e.2.2 → k ∈ (pre.map fun e => e.2.2).flatten := fun e he k hk => List.mem_flatten.2 ⟨_, List.mem_map.2 ⟨e, he, rfl⟩, hk⟩
  have hpost : ∀ e, e ∈ post → ∀ k, k ∈ e.2.2 → k ∈ (post.map fun e => e.2.2).flatten := fun e he k hk => List.mem_flatten.2 ⟨_, List.mem_map.2 ⟨e, he, rfl⟩, hk⟩
  have hk5 : ∀ e, (e ∈ pre ∨ e ∈ post) → e.1 ≠ id := fun e he hx => by
    simp only [List.map_append, List.map_cons, List.nodup_append, List.nodup_cons] at g5
    obtain ⟨_, ⟨a2, _⟩, a3⟩ := g5
    rcases he with he | he
    · exact a3 _ (List.mem_map.2 ⟨e, he, rfl⟩) id (List.mem_cons_self ..) hx
    · exact a2 (List.mem_map.2 ⟨e, he, hx⟩)
  refine ⟨?_, fun e he => ?_, ?_, ?_, fun m hm => ?_, ?_⟩
  · have e0 : ∀ G : List Nat, (pre ++ (id, b, G) :: post).map (fun e => (Value.int .i64 e.1, Value.pointer (some ⟨e.2.1, 0, none⟩))) = pre.map (fun e => (Value.int .i64 e.1, Value.pointer (some ⟨e.2.1, 0, none⟩))) ++ (Value.int .i64 id, Value.pointer (some ⟨b, 0, none⟩)) :: post.map (fun e => (Value.int .i64 e.1, Value.pointer (some ⟨e.2.1, 0, none⟩))) := fun G => by simp
    rw [e0] at g0 ⊢
    exact g0.keep (hf.block M g0.lt fun hx => n0 (List.mem_append_right _ (List.mem_append_left _ hx)))
  · rcases List.mem_append.1 he with he | he
    · rw [(st_other (fun hx => hk5 e (Or.inl he) (hx.symm.trans hid))).1]
      exact (g1 e (List.mem_append_left _ he)).fr hf fun k hk hx => n5 k (hpre e he k hk) k (List.mem_append_left _ hx) rfl
    · rcases List.mem_cons.1 he with rfl | he
      · exact hs
      · rw [(st_other (fun hx => hk5 e (Or.inr he) (hx.symm.trans hid))).1]
        exact (g1 e (List.mem_append_right _ (List.mem_cons_of_mem _ he))).fr hf fun k hk hx => n4 k hx k (hpost e he k hk) rfl
  · rw [hfl, List.nodup_cons, List.nodup_append, List.nodup_append]
    refine ⟨fun hm => ?_, n1, ⟨hs.nodup, n3, fun x hx y hy e => ?_⟩, fun x hx y hy e => ?_⟩
    · rcases List.mem_append.1 hm with hm | hm
      · exact n0 (List.mem_append_left _ hm)
      · rcases List.mem_append.1 hm with hm | hm
        · rcases hF M hm with hm | hm
          · exact n0 (List.mem_append_right _ (List.mem_append_left _ hm))
          · have := hlt M (List.mem_cons_self ..); omega
        · exact n0 (List.mem_append_right _ (List.mem_append_right _ hm))
    · subst e
      rcases hF x hx with hx | hx
      · exact n4 x hx x hy rfl
      · have := hlt x (List.mem_cons_of_mem _ (List.mem_append_right _ (List.mem_append_right _ hy))); omega
    · subst e
      rcases List.mem_append.1 hy with hy | hy
      · rcases hF x hy with hy | hy
        · exact n5 x hx x (List.mem_append_left _ hy) rfl
        · have := hlt x (List.mem_cons_of_mem _ (List.mem_append_left _ hx)); omega
      · exact n5 x hx x (List.mem_append_right _ hy) rfl
  · intro k hk
    rw [hfl] at hk
    rcases List.mem_cons.1 hk with rfl | hk
    · exact g3 _ (List.mem_cons_self ..)
    · rcases List.mem_append.1 hk with hk | hk
      · exact g3 k (List.mem_cons_of_mem _ (List.mem_append_left _ hk))
      · rcases List.mem_append.1 hk with hk | hk
        · rcases hF k hk with hk | hk
          · exact g3 k (hmF k hk)
          · omega
        · exact g3 k (List.mem_cons_of_mem _ (List.mem_append_right _ (List.mem_append_right _ hk)))
  · rcases List.mem_append.1 hm with hm | hm
    · obtain ⟨e, he, h⟩ := g4 m hm
      rcases List.mem_append.1 he with he | he
      · exact ⟨e, List.mem_append_left _ he, h⟩
      · rcases List.mem_cons.1 he with rfl | he
        · exact ⟨(id, b, F'), List.mem_append_right _ (List.mem_cons_self ..), h⟩
        · exact ⟨e, List.mem_append_right _ (List.mem_cons_of_mem _ he), h⟩
    · rw [List.mem_singleton] at hm
      subst hm
      exact ⟨(id, b, F'), List.mem_append_right _ (List.mem_cons_self ..), hid.symm⟩
  · simpa using g5
end
end Go.Proofs.Ytgdeclmciflmpaa
