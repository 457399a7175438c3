/- A code that is built: its rows, its sites; the result. Plain lemmas. -/
import Derived.Test.YtgagbbhnifkclaaFlatR
import Derived.Test.YtgagbbhnifkclaaOrder
set_option linter.unusedVariables false
set_option linter.unusedSimpArgs false
set_option maxRecDepth 100000
namespace Go.Proofs.Ytgagbbhnifkclaa
open Go.RowKit
def padK (m k : Nat) : List Ins := (List.range k).map fun (i : Nat) => (17, ((m - 1 - i : Nat) : Int))
def padRK (pad k : Nat) : List Row := (List.range k).map fun (i : Nat) => (((pad + i : Nat) : Int), ((pad + i + 1 : Nat) : Int), ((pad + i + 1 : Nat) : Int))
theorem padK_succ (m k : Nat) : padK m (k + 1) = padK m k ++ [(17, ((m - 1 - k : Nat) : Int))] := by simp [padK, List.range_succ]
theorem padRK_succ (pad k : Nat) : padRK pad (k + 1) = padRK pad k ++ [(((pad + k : Nat) : Int), ((pad + k + 1 : Nat) : Int), ((pad + k + 1 : Nat) : Int))] := by simp [padRK, List.range_succ]
theorem padK_len (m k : Nat) : (padK m k).length = k := by simp [padK]
theorem padRK_len (m k : Nat) : (padRK m k).length = k := by simp [padRK]
theorem padK_all (pad m : Nat) : padI pad m = padK m m := rfl
theorem padRK_all (pad m : Nat) : padR pad m = padRK pad m := rfl
theorem padK_ok {m k : Nat} (hm : m ≤ 1099511627776) : ∀ x, x ∈ padK m k → okI x := by
  intro x hx
  obtain ⟨i, _, rfl⟩ := List.mem_map.1 hx
  exact ⟨by unfold I64; omega, by unfold I64; omega⟩
theorem padRK_ok {pad k : Nat} (hp : pad + k ≤ 1099511627776) : ∀ x, x ∈ padRK pad k → I64 x.1 ∧ I64 x.2.1 ∧ I64 x.2.2 := by
  intro x hx
  obtain ⟨i, hi, rfl⟩ := List.mem_map.1 hx
  have := List.mem_range.1 hi
  refine ⟨?_, ?_, ?_⟩ <;> (simp only [I64]; omega)
theorem Try.infoRow2 : (Try.prog.info? 172).map (fun i => (i.zero, i.size, i.bytes)) = some (some (.agg #[.int .i64 0, .int .i64 0, .int .i64 0]), 3, 24) := by kernel_rfl
/-- A row of the call's own that holds rows. -/
def RowRow (w : World) (base : Nat) (v : Value) (l : List Row) : Prop := w.ownsRow base 172 3 v l.length (encL rowV l)
/-- A row of the call's own that holds ints. -/
def IntRow (w : World) (base : Nat) (v : Value) (l : List Int) : Prop := w.ownsRow base 3 1 v l.length (l.map (Value.int .i64))
section
variable {w w' : World} {base : Nat} {v : Value}
theorem RowRow.keep {l : List Row} (h : RowRow w base v l) (hk : ∀ k, v.ownBlock = some k → w'.heap[k]? = w.heap[k]?) : RowRow w' base v l := ownsRow_keep0 h hk
theorem IntRow.keep {l : List Int} (h : IntRow w base v l) (hk : ∀ k, v.ownBlock = some k → w'.heap[k]? = w.heap[k]?) : IntRow w' base v l := ownsRow_keep0 h hk
theorem InsRow.keep {l : List Ins} (h : InsRow w base v l) (hk : ∀ k, v.ownBlock = some k → w'.heap[k]? = w.heap[k]?) : InsRow w' base v l := ownsRow_keep0 h hk
theorem RowRow.below {l : List Row} (h : RowRow w base v l) (hb : Below w.heap.size w w') : RowRow w' base v l := ownsRow_below h hb
theorem IntRow.below {l : List Int} (h : IntRow w base v l) (hb : Below w.heap.size w w') : IntRow w' base v l := ownsRow_below h hb
theorem RowRow.lt {l : List Row} (h : RowRow w base v l) : ∀ g, v.ownBlock = some g → base ≤ g ∧ g < w.heap.size := fun g hg => World.ownsRow.lt h g hg
theorem IntRow.lt {l : List Int} (h : IntRow w base v l) : ∀ g, v.ownBlock = some g → base ≤ g ∧ g < w.heap.size := fun g hg => World.ownsRow.lt h g hg
theorem RowRow.nil_ (w : World) (base : Nat) : RowRow w base (.slice none 0 0) [] := by unfold RowRow; simpa [encL] using World.ownsRow_nil _ _ _ _
theorem IntRow.nil_ (w : World) (base : Nat) : IntRow w base (.slice none 0 0) [] := by unfold IntRow; simpa using World.ownsRow_nil _ _ _ _
theorem RowRow.form {l : List Row} (h : RowRow w base v l) : ∃ A n c, v = .slice A n c ∧ n = l.length := by
  rcases h.2 with ⟨h, h0⟩ | ⟨g, cap, cur, h, _⟩
  · exact ⟨_, _, _, h, h0.symm⟩
  · exact ⟨_, _, _, h, rfl⟩
theorem IntRow.form {l : List Int} (h : IntRow w base v l) : ∃ A n c, v = .slice A n c ∧ n = l.length := by
  rcases h.2 with ⟨h, h0⟩ | ⟨g, cap, cur, h, _⟩
  · exact ⟨_, _, _, h, h0.symm⟩
  · exact ⟨_, _, _, h, rfl⟩
theorem RowRow.eq {l l' : List Row} (h : RowRow w base v l) (e : l = l') : RowRow w base v l' := e ▸ h
theorem IntRow.eq {l l' : List Int} (h : IntRow w base v l) (e : l = l') : IntRow w base v l' := e ▸ h
theorem RowRow.own {l : List Row} (h : RowRow w base v l) (hi : ∀ x, x ∈ l → I64 x.1 ∧ I64 x.2.1 ∧ I64 x.2.2) : OwnSl RowR w 172 v.ownBlock.toList v l := own_flat h (fun x hx => row_own (hi x hx))
theorem IntRow.own {l : List Int} (h : IntRow w base v l) (hi : ∀ x, x ∈ l → I64 x) : OwnSl intR w 3 v.ownBlock.toList v l := own_ints h hi
theorem InsRow.own {l : List Ins} (h : InsRow w base v l) (hi : ∀ x, x ∈ l → okI x) : OwnSl InsR w 165 v.ownBlock.toList v l := own_flat h (fun x hx => ins_own (hi x hx))
theorem rowRow_new (w : World) {base g : Nat} (hg : w.heap.size = g) (hb : base ≤ g) (p q r : Int) : RowRow (w.alloc (.cells #[.int .i64 p, .int .i64 q, .int .i64 r] 172)) base (.slice (some ⟨g, 0, none⟩) 1 1) [(p, q, r)] := by
  subst hg
  exact ⟨rfl, .inr ⟨_, 1, _, rfl, hb, heap_alloc_new w _, Nat.le_refl _, by unfold maxLen; omega, rfl, rfl⟩⟩
end
theorem cell_new3 (w : World) (u v u' : Value) (t : TypeId) {g : Nat} (hg : w.heap.size = g) : ∀ j x, [u, v, u'][j]? = some x → (w.alloc (.cells #[u, v, u'] t)).cell? ((⟨g, 0, none⟩ : Addr).add j) = some x := by
  intro j x h
  subst hg
  have hj : j < 3 := by
    have := (List.getElem?_eq_some_iff.1 h).1
    simpa using this
  have e : j = 0 ∨ j = 1 ∨ j = 2 := by omega
  rcases e with rfl | rfl | rfl
  · simp at h; subst h
    rw [show (⟨w.heap.size, 0, none⟩ : Addr).add 0 = ⟨w.heap.size, 0, none⟩ from rfl, cell_of_row _ _ _ _ _ _ (heap_alloc_new w _)]; rfl
  · simp at h; subst h
    rw [show (⟨w.heap.size, 0, none⟩ : Addr).add 1 = ⟨w.heap.size, 1, none⟩ from rfl, cell_of_row _ _ _ _ _ _ (heap_alloc_new w _)]; rfl
  · simp at h; subst h
    rw [show (⟨w.heap.size, 0, none⟩ : Addr).add 2 = ⟨w.heap.size, 2, none⟩ from rfl, cell_of_row _ _ _ _ _ _ (heap_alloc_new w _)]; rfl
section
variable (w : World)
/-- One row more. -/
theorem wpl_rapp1 {ops : Array Oper} {rest : List Oper} {o : Oper} {a : Act} {Q : Exit → Act → World → Prop} (hgd : o.guard = none) (s x : Operand)
    (ho : o.op = .call { callee := .builtin .append, args := #[s, x], argTypes := #[42, 42] })
    (base : Nat) (v : Value) (l : List Row) (hs : a.eval s = v) (hown : RowRow w base v l) (ad : Addr) (c : Nat) (p q r : Int) (hx : a.eval x = .slice (some ad) 1 c)
    (hnews : ∀ j u, ([.int .i64 p, .int .i64 q, .int .i64 r] : List Value)[j]? = some u → w.cell? (ad.add j) = some u) (hl : l.length ≤ 1099511627776) (hbase : base ≤ w.heap.size)
    (h : ∀ v' w', RowRow w' base v' (l ++ [(p, q, r)]) → w.grownBy w' v.ownBlock → (v'.ownBlock = v.ownBlock ∨ v'.ownBlock = some w.heap.size) → wpList Try.prog ops Q rest (a.put o.dst v') w') :
    wpList Try.prog ops Q (o :: rest) a w := by
  obtain ⟨inf, hif, hz0, hz1, hz2⟩ := info_parts Try.infoRow2
  refine wpList_append_own_at w hgd s x _ ho base 172 inf _ 3 24 Try.underlying42 hif hz0 hz1 hz2 rfl (by decide) v _ _ hs hown ad 1 c _ hx rfl hnews (by intro u hu; simp at hu; rcases hu with rfl | rfl | rfl <;> rfl) (by unfold maxLen; omega) (by omega) hbase ?_
  intro v' w' h1 h2 _ h3
  refine h v' w' ?_ h2 h3
  unfold RowRow
  rw [encL_append, encL_one, List.length_append]; exact h1
/-- One int more, in a region that draws. -/
theorem step_iapp1 {ops : Array Oper} {o : Oper} {a : Act} {K : Act → World → Prop} {Q : Exit → Act → World → Prop} {E : Prop} (hgd : o.guard = none) (s x : Operand)
    (ho : o.op = .call { callee := .builtin .append, args := #[s, x], argTypes := #[33, 33] })
    (base : Nat) (v : Value) (l : List Int) (hs : a.eval s = v) (hown : IntRow w base v l) (g : Nat) (c : Nat) (p : Int) (hx : a.eval x = .slice (some ⟨g, 0, none⟩) 1 c)
    (hc : w.cell? ⟨g, 0, none⟩ = some (.int .i64 p)) (hl : l.length ≤ 1099511627776) (hbase : base ≤ w.heap.size)
    (h : ∀ v' w', IntRow w' base v' (l ++ [p]) → w.grownBy w' v.ownBlock → (v'.ownBlock = v.ownBlock ∨ v'.ownBlock = some w.heap.size) → K (a.put o.dst v') w') :
    if Region.wanted o (yielded ops a.tmps) = true then Oper.wp Try.prog o a w K Q else E := by
  obtain ⟨inf, hif, hz0, hz1, hz2⟩ := info_parts Try.infoInt
  refine step_append_src w hgd s x _ ho base 3 inf _ 1 8 Try.underlying33 hif hz0 hz1 hz2 rfl (by decide) v _ _ hs hown (some ⟨g, 0, none⟩) 1 c [.int .i64 p] hx ⟨rfl, (fun h => by cases h), ?_⟩ (by intro u hu; simp at hu; subst hu; rfl) (by unfold maxLen; omega) (by omega) hbase ?_
  · intro ad had j u hu
    obtain rfl := Option.some.inj had
    match j, hu with
    | 0, hu =>
      simp at hu
      subst hu
      rw [show (⟨g, 0, none⟩ : Addr).add 0 = ⟨g, 0, none⟩ from rfl]; exact hc
    | j + 1, hu => simp at hu
  · intro v' w' h1 h2 h3
    refine h v' w' ?_ h2 h3
    unfold IntRow
    rw [List.map_append, List.length_append]; exact h1
end
/-- The call returns a code in memory of its own, and whether it is one. -/
def RetCodeB (c : Code) (b : Bool) (w : World) (e : Ending) (w' : World) : Prop :=
  ∃ A2 n2 c2 A3 n3 c3 A4 n4 c4 F2 F3 F4, e = .returned (.tuple #[.agg #[.int .i64 c.1, .int .i64 c.2.1, .slice A2 n2 c2, .slice A3 n3 c3, .slice A4 n4 c4], .bool b]) ∧ OwnSl intR w' 3 F2 (.slice A2 n2 c2) c.2.2.1 ∧ OwnSl InsR w' 165 F3 (.slice A3 n3 c3) c.2.2.2.1 ∧ OwnSl RowR w' 172 F4 (.slice A4 n4 c4) c.2.2.2.2 ∧
    (F2 ++ (F3 ++ F4)).Nodup ∧ (∀ k, k ∈ F2 ++ (F3 ++ F4) → w.heap.size ≤ k) ∧ Below w.heap.size w w'
theorem RetCodeB.mk {w w' : World} {x0 x1 : Int} {ls : List Int} {li : List Ins} {lr : List Row} {b : Bool} {A2 A3 A4 : Option Addr} {n2 c2 n3 c3 n4 c4 : Nat} {b2 b3 b4 : Nat}
    (h2 : IntRow w' b2 (.slice A2 n2 c2) ls) (h3 : InsRow w' b3 (.slice A3 n3 c3) li) (h4 : RowRow w' b4 (.slice A4 n4 c4) lr) (i2 : ∀ x, x ∈ ls → I64 x) (i3 : ∀ x, x ∈ li → okI x) (i4 : ∀ x, x ∈ lr → I64 x.1 ∧ I64 x.2.1 ∧ I64 x.2.2)
    (l2 : w.heap.size ≤ b2) (l3 : w.heap.size ≤ b3) (l4 : w.heap.size ≤ b4) (d23 : ∀ g, (Value.slice A2 n2 c2).ownBlock = some g → ¬ (Value.slice A3 n3 c3).ownBlock = some g) (d24 : ∀ g, (Value.slice A2 n2 c2).ownBlock = some g → ¬ (Value.slice A4 n4 c4).ownBlock = some g) (d34 : ∀ g, (Value.slice A3 n3 c3).ownBlock = some g → ¬ (Value.slice A4 n4 c4).ownBlock = some g)
    (hb : Below w.heap.size w w') : RetCodeB (x0, x1, ls, li, lr) b w (.returned (.tuple #[.agg #[.int .i64 x0, .int .i64 x1, .slice A2 n2 c2, .slice A3 n3 c3, .slice A4 n4 c4], .bool b])) w' := by
  refine ⟨A2, n2, c2, A3, n3, c3, A4, n4, c4, _, _, _, rfl, h2.own i2, h3.own i3, h4.own i4, ?_, ?_, hb⟩
  · rw [List.nodup_append, List.nodup_append]
    have nd : ∀ o : Option Nat, o.toList.Nodup := fun o => by cases o <;> simp
    refine ⟨nd _, ⟨nd _, nd _, ?_⟩, ?_⟩
    · intro a ha b hb e
      subst e
      exact d34 a (by simpa using ha) (by simpa using hb)
    · intro a ha b hb e
      subst e
      rcases List.mem_append.1 hb with hb | hb
      · exact d23 a (by simpa using ha) (by simpa using hb)
      · exact d24 a (by simpa using ha) (by simpa using hb)
  · intro k hk
    rcases List.mem_append.1 hk with hk | hk
    · exact Nat.le_trans l2 (h2.lt k (by simpa using hk)).1
    · rcases List.mem_append.1 hk with hk | hk
      · exact Nat.le_trans l3 (h3.lt k (by simpa using hk)).1
      · exact Nat.le_trans l4 (h4.lt k (by simpa using hk)).1
theorem RetCodeB.none {w w' : World} (hb : Below w.heap.size w w') : RetCodeB (0, 0, [], [], []) false w (.returned (.tuple #[.agg #[.int .i64 0, .int .i64 0, .slice none 0 0, .slice none 0 0, .slice none 0 0], .bool false])) w' :=
  RetCodeB.mk (IntRow.nil_ _ w.heap.size) (InsRow.nil_ _ w.heap.size) (RowRow.nil_ _ w.heap.size) (fun _ h => by simp at h) (fun _ h => by simp at h) (fun _ h => by simp at h) (Nat.le_refl _) (Nat.le_refl _) (Nat.le_refl _) (fun _ h => by cases h) (fun _ h => by cases h) (fun _ h => by cases h) hb
end Go.Proofs.Ytgagbbhnifkclaa
