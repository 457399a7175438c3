/- Rows of data without pointers: what a row of the call's own that holds them reads as; such a row as the source of an append; one number put in another's place. Plain lemmas. -/
import Derived.Test.YtgoinmdnpaknpaaGreatKit1
import Derived.Test.YtgoinmdnpaknpaaGreatTyIm
import Derived.Test.YtgoinmdnpaknpaaGreatTyPg
set_option linter.unusedVariables false
set_option linter.unusedSimpArgs false
namespace Go.Proofs.YtgoinmdnpaknpaaGreat
open Go.RowKit

def encL {α : Type} (enc : α → List Value) (l : List α) : List Value := l.flatMap enc
section
variable {α : Type} {enc : α → List Value}
theorem encL_nil : encL enc ([] : List α) = [] := rfl
theorem encL_append (a b : List α) : encL enc (a ++ b) = encL enc a ++ encL enc b := by simp [encL, List.flatMap_append]
theorem encL_one (x : α) : encL enc [x] = enc x := by simp [encL]
theorem encL_cons (x : α) (b : List α) : encL enc (x :: b) = enc x ++ encL enc b := rfl
theorem encL_len {s : Nat} (hs : ∀ x, (enc x).length = s) : ∀ l : List α, (encL enc l).length = l.length * s
  | [] => by simp [encL]
  | x :: l => by rw [encL_cons, List.length_append, hs, encL_len hs l, List.length_cons, Nat.add_mul]; omega
theorem encL_at {s : Nat} (hs : ∀ x, (enc x).length = s) : ∀ (l : List α) (i : Nat) (hi : i < l.length) (j : Nat), j < s → (encL enc l)[i * s + j]? = (enc l[i])[j]?
  | x :: l, 0, _, j, hj => by rw [encL_cons, Nat.zero_mul, Nat.zero_add, List.getElem?_append_left (by rw [hs]; exact hj)]; rfl
  | x :: l, i + 1, hi, j, hj => by
    rw [encL_cons, List.getElem?_append_right (by rw [hs, Nat.add_mul]; omega), hs, show (i + 1) * s + j - s = i * s + j by rw [Nat.add_mul]; omega, encL_at hs l i (by simpa using hi) j hj]
    rfl
theorem encL_set {s : Nat} (hs : ∀ x, (enc x).length = s) : ∀ (l : List α) (i : Nat) (hi : i < l.length) (j : Nat) (_ : j < s) (u : Value) (y : α), (enc l[i]).set j u = enc y → (encL enc l).set (i * s + j) u = encL enc (l.set i y)
  | x :: l, 0, _, j, hj, u, y, h => by
    rw [encL_cons, Nat.zero_mul, Nat.zero_add, List.set_append_left _ _ (by rw [hs]; exact hj), List.set_cons_zero, encL_cons]
    rw [show (x :: l)[0] = x from rfl] at h
    rw [h]
  | x :: l, i + 1, hi, j, hj, u, y, h => by
    rw [encL_cons, List.set_append_right _ _ (by rw [hs, Nat.add_mul]; omega), hs, show (i + 1) * s + j - s = i * s + j by rw [Nat.add_mul]; omega, encL_set hs l i (by simpa using hi) j hj u y h, List.set_cons_succ, encL_cons]
theorem encL_one' {l : List α} (h1 : ∀ x, ∀ u ∈ enc x, u.oneCell' = true) : ∀ u ∈ encL enc l, u.oneCell' = true := by
  intro u hu
  obtain ⟨x, _, hx⟩ := List.mem_flatMap.1 hu
  exact h1 x u hx
/-- A row of the call's own that holds data without pointers owns their list. -/
theorem own_flat {R : Rp α} {w : World} {base : Nat} {e : TypeId} {v : Value} {l : List α} (h : w.ownsRow base e R.size v l.length (encL enc l)) (hi : ∀ x, x ∈ l → R.own w [] (enc x) x) : OwnSl R w e v.ownBlock.toList v l := by
  refine ⟨l.map enc, l.map fun _ => [], ?_, ?_, ?_, ?_⟩
  · have e1 : (l.map enc).flatten = encL enc l := by unfold encL; rw [List.flatMap_def]
    rw [e1]
    refine ⟨h.1, ?_⟩
    rcases h.2 with h | ⟨g, cap, cur, a, b, r⟩
    · exact .inl h
    · exact .inr ⟨g, cap, cur, a, Nat.zero_le _, r⟩
  · clear h
    induction l with
    | nil => trivial
    | cons x l ih => exact ⟨hi x (List.mem_cons_self ..), ih fun y hy => hi y (List.mem_cons_of_mem _ hy)⟩
  · have e2 : (l.map fun _ => ([] : List Nat)).flatten = [] := by
      clear h hi
      induction l with
      | nil => rfl
      | cons x l ih => simp only [List.map_cons, List.flatten_cons, ih]; rfl
    rw [e2, List.append_nil]
  · cases v.ownBlock <;> simp
theorem RetOwn.flat {R : Rp α} {E : TypeId} {l : List α} {w w' : World} {v : Value} (h : w'.ownsRow w.heap.size E R.size v l.length (encL enc l)) (hi : ∀ x, x ∈ l → R.own w' [] (enc x) x) (hb : Below w.heap.size w w') : RetOwn R E l w (.returned v) w' := by
  have ho := own_flat h hi
  obtain ⟨A, n, c, hv, _⟩ := ho.form
  subst hv
  exact ⟨_, A, n, c, rfl, ho, fun k hk => (h.lt k (by simpa using hk)).1, hb⟩
theorem src_flat {R : Rp α} {w : World} {lo hi : Nat} {A : Option Addr} {n c : Nat} {l : List α} (h : Sl R w lo hi A n c l) (hr : ∀ cs x, R.rel w lo hi cs x → cs = enc x) (hs : ∀ x, (enc x).length = R.size) (hp : 0 < R.size) : Src w R.size A n (encL enc l) := by
  have e1 := h.lenEq
  refine ⟨by rw [encL_len hs, e1], ?_, ?_⟩
  · rintro rfl
    rcases Nat.eq_zero_or_pos n with h0 | h0
    · exact h0
    · obtain ⟨_, _, _, h1, _⟩ := h.at_ h0; cases h1
  · rintro ad rfl j u hu
    have hj : j < n * R.size := by
      have := (List.getElem?_eq_some_iff.1 hu).1
      rwa [encL_len hs, e1] at this
    have hd : j / R.size < n := by rw [Nat.div_lt_iff_lt_mul hp]; exact hj
    have hm : j % R.size < R.size := Nat.mod_lt _ hp
    obtain ⟨b, o, cs, hA, _, _, hrel, hc⟩ := h.at_ hd
    injection hA with hA
    subst hA
    obtain rfl := hr _ _ hrel
    have e2 : j / R.size * R.size + j % R.size = j := by rw [Nat.mul_comm]; exact Nat.div_add_mod ..
    have := encL_at hs l (j / R.size) (by omega) (j % R.size) hm
    rw [e2, hu] at this
    have hm2 : j % R.size < (enc (l[j / R.size]'(by omega))).length := by rw [hs]; exact hm
    have hcc := hc (j % R.size) hm2
    rw [List.getElem?_eq_getElem hm2] at this
    injection this with this
    rw [← this] at hcc
    have ea : (⟨b, o, none⟩ : Addr).add j = ⟨b, o + j, none⟩ := by unfold Addr.add; split <;> simp_all
    rw [ea, show o + j = o + j / R.size * R.size + j % R.size by omega]; exact hcc
end
def insV (x : Ins) : List Value := [.int .i64 x.1, .int .i64 x.2]
def rowV (x : Row) : List Value := [.int .i64 x.1, .int .i64 x.2.1, .int .i64 x.2.2]
theorem insV_len (x : Ins) : (insV x).length = 2 := rfl
theorem rowV_len (x : Row) : (rowV x).length = 3 := rfl
theorem insV_one (x : Int × Int) : ∀ u ∈ insV x, u.oneCell' = true := by
  intro u hu; simp [insV] at hu; rcases hu with rfl | rfl <;> rfl
theorem rowV_one (x : Row) : ∀ u ∈ rowV x, u.oneCell' = true := by
  intro u hu; simp [rowV] at hu; rcases hu with rfl | rfl | rfl <;> rfl
def okIns (x : Int × Int) : Prop := I64 x.1 ∧ I64 x.2
theorem ins_own {w : World} {x : Ins} (h : okIns x) : InsR.own w [] (insV x) x := Ins_own w x.1 x.2 h.1 h.2
theorem row_own {w : World} {x : Row} (h : I64 x.1 ∧ I64 x.2.1 ∧ I64 x.2.2) : RowR.own w [] (rowV x) x := Row_own w x.1 x.2.1 x.2.2 h.1 h.2.1 h.2.2
theorem src_ins {w : World} {lo hi : Nat} {A : Option Addr} {n c : Nat} {l : List Ins} (h : Sl InsR w lo hi A n c l) : Src w 2 A n (encL insV l) :=
  src_flat h (fun cs x hr => by obtain ⟨a, b, rfl, rfl, _⟩ := Ins_rel hr; rfl) (fun _ => rfl) (by decide)
theorem encL_map (l : List Int) : encL (fun x : Int => [Value.int .i64 x]) l = l.map (Value.int .i64) := by
  unfold encL; induction l with
  | nil => rfl
  | cons x l ih => rw [List.flatMap_cons, ih]; rfl
/-- The number of one instruction is put anew. -/
theorem ins_patch {w : World} {base e g n c : Nat} {l : List Ins} (h : w.ownsRow base e 2 (.slice (some ⟨g, 0, none⟩) n c) n (encL insV l)) {i : Nat} (hi : i < l.length) (m : Int) :
    (w.setCell ⟨g, i * 2 + 1, none⟩ (.int .i64 m)).ownsRow base e 2 (.slice (some ⟨g, 0, none⟩) n c) n (encL insV (l.set i ((l[i]).1, m))) := by
  have := (h.stored (i * 2 + 1) (.int .i64 m)).1
  rwa [encL_set insV_len l i hi 1 (by decide) _ ((l[i]).1, m) rfl] at this
theorem cell_new2 (w : World) (u v : Value) (t : TypeId) {g : Nat} (hg : w.heap.size = g) : ∀ j x, [u, v][j]? = some x → (w.alloc (.cells #[u, v] t)).cell? ((⟨g, 0, none⟩ : Addr).add j) = some x := by
  intro j x h
  subst hg
  match j, h with
  | 0, h =>
    simp at h
    subst h
    rw [show (⟨w.heap.size, 0, none⟩ : Addr).add 0 = ⟨w.heap.size, 0, none⟩ from rfl]
    rw [cell_of_row _ _ _ _ _ _ (heap_alloc_new w _)]
    rfl
  | 1, h =>
    simp at h
    subst h
    rw [show (⟨w.heap.size, 0, none⟩ : Addr).add 1 = ⟨w.heap.size, 1, none⟩ from rfl]
    rw [cell_of_row _ _ _ _ _ _ (heap_alloc_new w _)]
    rfl
  | j + 2, h => simp at h
theorem encL_snoc {l : List Ins} {p q : Int} : encL insV (l ++ [(p, q)]) = encL insV l ++ [.int .i64 p, .int .i64 q] := by rw [encL_append, encL_one]; rfl
theorem encL_snoc2 {l : List Ins} {p q p' q' : Int} : encL insV (l ++ [(p, q), (p', q')]) = encL insV l ++ [.int .i64 p, .int .i64 q, .int .i64 p', .int .i64 q'] := by rw [encL_append]; rfl
/-- A row of the call's own that holds instructions. -/
def InsRow (w : World) (base : Nat) (v : Value) (l : List Ins) : Prop := w.ownsRow base 67 2 v l.length (encL insV l)
theorem InsRow.below {w w' : World} {base : Nat} {v : Value} {l : List Ins} (h : InsRow w base v l) (hb : Below w.heap.size w w') : InsRow w' base v l := ownsRow_below h hb
theorem InsRow.nil_ (w : World) (base : Nat) : InsRow w base (.slice none 0 0) [] := by unfold InsRow; simpa [encL] using World.ownsRow_nil _ _ _ _
theorem InsRow.lt {w : World} {base : Nat} {v : Value} {l : List Ins} (h : InsRow w base v l) : ∀ g, v.ownBlock = some g → base ≤ g ∧ g < w.heap.size := fun g hg => World.ownsRow.lt h g hg
theorem InsRow.form {w : World} {base : Nat} {v : Value} {l : List Ins} (h : InsRow w base v l) : ∃ A n c, v = .slice A n c ∧ n = l.length := by
  rcases h.2 with ⟨h, h0⟩ | ⟨g, cap, cur, h, _⟩
  · exact ⟨_, _, _, h, h0.symm⟩
  · exact ⟨_, _, _, h, rfl⟩
theorem RetOwn.insRow {l : List Ins} {w w' : World} {v : Value} (h : InsRow w' w.heap.size v l) (hi : ∀ x, x ∈ l → okIns x) (hb : Below w.heap.size w w') : RetOwn InsR 67 l w (.returned v) w' := RetOwn.flat h (fun x hx => ins_own (hi x hx)) hb
theorem Tryz.infoIns2 : (Tryz.prog.info? 67).map (fun i => (i.zero, i.size, i.bytes)) = some (some (.agg #[.int .i64 0, .int .i64 0]), 2, 16) := by kernel_rfl
section
variable (w : World)
/-- One instruction more. -/
theorem wpl_app1 {ops : Array Oper} {rest : List Oper} {o : Oper} {a : Act} {Q : Exit → Act → World → Prop} (hgd : o.guard = none) (s x : Operand)
    (ho : o.op = .call { callee := .builtin .append, args := #[s, x], argTypes := #[36, 36] })
    (base : Nat) (v : Value) (l : List Ins) (hs : a.eval s = v) (hown : InsRow w base v l) (ad : Addr) (c : Nat) (p q : Int) (hx : a.eval x = .slice (some ad) 1 c)
    (hnews : ∀ j u, ([.int .i64 p, .int .i64 q] : List Value)[j]? = some u → w.cell? (ad.add j) = some u) (hl : l.length ≤ 1099511627776) (hbase : base ≤ w.heap.size)
    (h : ∀ v' w', InsRow w' base v' (l ++ [(p, q)]) → w.grownBy w' v.ownBlock → (v'.ownBlock = v.ownBlock ∨ v'.ownBlock = some w.heap.size) → wpList Tryz.prog ops Q rest (a.put o.dst v') w') :
    wpList Tryz.prog ops Q (o :: rest) a w := by
  obtain ⟨inf, hif, hz0, hz1, hz2⟩ := info_parts Tryz.infoIns2
  refine wpList_append_own_at w hgd s x _ ho base 67 inf _ 2 16 Tryz.underlying36 hif hz0 hz1 hz2 rfl (by decide) v _ _ hs hown ad 1 c _ hx rfl hnews (by intro u hu; simp at hu; rcases hu with rfl | rfl <;> rfl) (by unfold maxLen; omega) (by omega) hbase ?_
  intro v' w' h1 h2 _ h3
  refine h v' w' ?_ h2 h3
  unfold InsRow
  rw [encL_snoc, List.length_append]; exact h1
theorem wpl_app2 {ops : Array Oper} {rest : List Oper} {o : Oper} {a : Act} {Q : Exit → Act → World → Prop} (hgd : o.guard = none) (s x : Operand)
    (ho : o.op = .call { callee := .builtin .append, args := #[s, x], argTypes := #[36, 36] })
    (base : Nat) (v : Value) (l : List Ins) (hs : a.eval s = v) (hown : InsRow w base v l) (ad : Addr) (c : Nat) (p q p' q' : Int) (hx : a.eval x = .slice (some ad) 2 c)
    (hnews : ∀ j u, ([.int .i64 p, .int .i64 q, .int .i64 p', .int .i64 q'] : List Value)[j]? = some u → w.cell? (ad.add j) = some u) (hl : l.length ≤ 1099511627776) (hbase : base ≤ w.heap.size)
    (h : ∀ v' w', InsRow w' base v' (l ++ [(p, q), (p', q')]) → w.grownBy w' v.ownBlock → (v'.ownBlock = v.ownBlock ∨ v'.ownBlock = some w.heap.size) → wpList Tryz.prog ops Q rest (a.put o.dst v') w') :
    wpList Tryz.prog ops Q (o :: rest) a w := by
  obtain ⟨inf, hif, hz0, hz1, hz2⟩ := info_parts Tryz.infoIns2
  refine wpList_append_own_at w hgd s x _ ho base 67 inf _ 2 16 Tryz.underlying36 hif hz0 hz1 hz2 rfl (by decide) v _ _ hs hown ad 2 c _ hx rfl hnews (by intro u hu; simp at hu; rcases hu with rfl | rfl | rfl | rfl <;> rfl) (by unfold maxLen; omega) (by omega) hbase ?_
  intro v' w' h1 h2 _ h3
  refine h v' w' ?_ h2 h3
  unfold InsRow
  rw [encL_snoc2, List.length_append]; exact h1
/-- A list of instructions more; nil where there are none. -/
theorem wpl_appS {ops : Array Oper} {rest : List Oper} {o : Oper} {a : Act} {Q : Exit → Act → World → Prop} (hgd : o.guard = none) (s x : Operand)
    (ho : o.op = .call { callee := .builtin .append, args := #[s, x], argTypes := #[36, 36] })
    (base : Nat) (v : Value) (l : List Ins) (hs : a.eval s = v) (hown : InsRow w base v l) (A : Option Addr) (m c : Nat) (l2 : List Ins) (hx : a.eval x = .slice A m c)
    (hsl : Sl InsR w 0 w.heap.size A m c l2) (hl : l.length + m ≤ 2199023255552) (hbase : base ≤ w.heap.size)
    (h : ∀ v' w', InsRow w' base v' (l ++ l2) → w.grownBy w' v.ownBlock → (v'.ownBlock = v.ownBlock ∨ v'.ownBlock = some w.heap.size) → wpList Tryz.prog ops Q rest (a.put o.dst v') w') :
    wpList Tryz.prog ops Q (o :: rest) a w := by
  obtain ⟨inf, hif, hz0, hz1, hz2⟩ := info_parts Tryz.infoIns2
  refine wpList_append_src w hgd s x _ ho base 67 inf _ 2 16 Tryz.underlying36 hif hz0 hz1 hz2 rfl (by decide) v _ _ hs hown A m c _ hx (src_ins hsl) (encL_one' insV_one) (by unfold maxLen; omega) (by omega) hbase ?_
  intro v' w' h1 h2 h3
  refine h v' w' ?_ h2 h3
  unfold InsRow
  rw [encL_append, List.length_append, hsl.lenEq]; exact h1
theorem step_appS {ops : Array Oper} {o : Oper} {a : Act} {K : Act → World → Prop} {Q : Exit → Act → World → Prop} {E : Prop} (hgd : o.guard = none) (s x : Operand)
    (ho : o.op = .call { callee := .builtin .append, args := #[s, x], argTypes := #[36, 36] })
    (base : Nat) (v : Value) (l : List Ins) (hs : a.eval s = v) (hown : InsRow w base v l) (A : Option Addr) (m c : Nat) (l2 : List Ins) (hx : a.eval x = .slice A m c)
    (hsl : Sl InsR w 0 w.heap.size A m c l2) (hl : l.length + m ≤ 2199023255552) (hbase : base ≤ w.heap.size)
    (h : ∀ v' w', InsRow w' base v' (l ++ l2) → w.grownBy w' v.ownBlock → (v'.ownBlock = v.ownBlock ∨ v'.ownBlock = some w.heap.size) → K (a.put o.dst v') w') :
    if Region.wanted o (yielded ops a.tmps) = true then Oper.wp Tryz.prog o a w K Q else E := by
  obtain ⟨inf, hif, hz0, hz1, hz2⟩ := info_parts Tryz.infoIns2
  refine step_append_src w hgd s x _ ho base 67 inf _ 2 16 Tryz.underlying36 hif hz0 hz1 hz2 rfl (by decide) v _ _ hs hown A m c _ hx (src_ins hsl) (encL_one' insV_one) (by unfold maxLen; omega) (by omega) hbase ?_
  intro v' w' h1 h2 h3
  refine h v' w' ?_ h2 h3
  unfold InsRow
  rw [encL_append, List.length_append, hsl.lenEq]; exact h1
end
end Go.Proofs.YtgoinmdnpaknpaaGreat
