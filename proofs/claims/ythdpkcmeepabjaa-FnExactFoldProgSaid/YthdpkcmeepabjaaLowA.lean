/- Several texts in one: FlatK, LowP, Low1, FlatR. -/
import Derived.Test.YthdpkcmeepabjaaKit1
import Derived.Test.YthdpkcmeepabjaaTyIm
import Derived.Test.YthdpkcmeepabjaaTyPg
import Derived.Test.YthdpkcmeepabjaaGood3

/- Rows of data without pointers: what a row of the call's own that holds them reads as; such a row as the source of an append; one number put in another's place. Plain lemmas. -/
set_option linter.unusedVariables false
set_option linter.unusedSimpArgs false
namespace Go.Proofs.Ythdpkcmeepabjaa
open Go.RowKit

def encL {α : Type} (enc : α → List Value) (l : List α) : List Value := l.flatMap enc
section
variable {α : Type} {enc : α → List Value}
theorem encL_nil : encL enc ([] : List α) = [] := rfl
theorem encL_append (a b : List α) : encL enc (a ++ b) = encL enc a ++ encL enc b := by simp [encL, List.flatMap_append]
theorem encL_one (x : α) : encL enc [x] = enc x := by simp [encL]
theorem encL_cons (x : α) (b : List α) : encL enc (x :: b) = enc x ++ encL enc b := rfl
theorem encL_len {s : Nat} (hs : ∀ x, (enc x).length = s) : ∀ l : List α, (encL enc l).length = l.length * s
  | [] => by simp [encL]
  | x :: l => by rw [encL_cons, List.length_append, hs, encL_len hs l, List.length_cons, Nat.add_mul]; omega
theorem encL_at {s : Nat} (hs : ∀ x, (enc x).length = s) : ∀ (l : List α) (i : Nat) (hi : i < l.length) (j : Nat), j < s → (encL enc l)[i * s + j]? = (enc l[i])[j]?
  | x :: l, 0, _, j, hj => by rw [encL_cons, Nat.zero_mul, Nat.zero_add, List.getElem?_append_left (by rw [hs]; exact hj)]; rfl
  | x :: l, i + 1, hi, j, hj => by
    rw [encL_cons, List.getElem?_append_right (by rw [hs, Nat.add_mul]; omega), hs, show (i + 1) * s + j - s = i * s + j by rw [Nat.add_mul]; omega, encL_at hs l i (by simpa using hi) j hj]
    rfl
theorem encL_set {s : Nat} (hs : ∀ x, (enc x).length = s) : ∀ (l : List α) (i : Nat) (hi : i < l.length) (j : Nat) (_ : j < s) (u : Value) (y : α), (enc l[i]).set j u = enc y → (encL enc l).set (i * s + j) u = encL enc (l.set i y)
  | x :: l, 0, _, j, hj, u, y, h => by
    rw [encL_cons, Nat.zero_mul, Nat.zero_add, List.set_append_left _ _ (by rw [hs]; exact hj), List.set_cons_zero, encL_cons]
    rw [show (x :: l)[0] = x from rfl] at h
    rw [h]
  | x :: l, i + 1, hi, j, hj, u, y, h => by
    rw [encL_cons, List.set_append_right _ _ (by rw [hs, Nat.add_mul]; omega), hs, show (i + 1) * s + j - s = i * s + j by rw [Nat.add_mul]; omega, encL_set hs l i (by simpa using hi) j hj u y h, List.set_cons_succ, encL_cons]
theorem encL_one' {l : List α} (h1 : ∀ x, ∀ u ∈ enc x, u.oneCell' = true) : ∀ u ∈ encL enc l, u.oneCell' = true := by
  intro u hu
  obtain ⟨x, _, hx⟩ := List.mem_flatMap.1 hu
  exact h1 x u hx
/-- A row of the call's own that holds data without pointers owns their list. -/
theorem own_flat {R : Rp α} {w : World} {base : Nat} {e : TypeId} {v : Value} {l : List α} (h : w.ownsRow base e R.size v l.length (encL enc l)) (hi : ∀ x, x ∈ l → R.own w [] (enc x) x) : OwnSl R w e v.ownBlock.toList v l := by
  refine ⟨l.map enc, l.map fun _ => [], ?_, ?_, ?_, ?_⟩
  · have e1 : (l.map enc).flatten = encL enc l := by unfold encL; rw [List.flatMap_def]
    rw [e1]
    refine ⟨h.1, ?_⟩
    rcases h.2 with h | ⟨g, cap, cur, a, b, r⟩
    · exact .inl h
    · exact .inr ⟨g, cap, cur, a, Nat.zero_le _, r⟩
  · clear h
    induction l with
    | nil => trivial
    | cons x l ih => exact ⟨hi x (List.mem_cons_self ..), ih fun y hy => hi y (List.mem_cons_of_mem _ hy)⟩
  · have e2 : (l.map fun _ => ([] : List Nat)).flatten = [] := by
      clear h hi
      induction l with
      | nil => rfl
      | cons x l ih => simp only [List.map_cons, List.flatten_cons, ih]; rfl
    rw [e2, List.append_nil]
  · cases v.ownBlock <;> simp
theorem RetOwn.flat {R : Rp α} {E : TypeId} {l : List α} {w w' : World} {v : Value} (h : w'.ownsRow w.heap.size E R.size v l.length (encL enc l)) (hi : ∀ x, x ∈ l → R.own w' [] (enc x) x) (hb : Below w.heap.size w w') : RetOwn R E l w (.returned v) w' := by
  have ho := own_flat h hi
  obtain ⟨A, n, c, hv, _⟩ := ho.form
  subst hv
  exact ⟨_, A, n, c, rfl, ho, fun k hk => (h.lt k (by simpa using hk)).1, hb⟩
theorem src_flat {R : Rp α} {w : World} {lo hi : Nat} {A : Option Addr} {n c : Nat} {l : List α} (h : Sl R w lo hi A n c l) (hr : ∀ cs x, R.rel w lo hi cs x → cs = enc x) (hs : ∀ x, (enc x).length = R.size) (hp : 0 < R.size) : Src w R.size A n (encL enc l) := by
  have e1 := h.lenEq
  refine ⟨by rw [encL_len hs, e1], ?_, ?_⟩
  · rintro rfl
    rcases Nat.eq_zero_or_pos n with h0 | h0
    · exact h0
    · obtain ⟨_, _, _, h1, _⟩ := h.at_ h0; cases h1
  · rintro ad rfl j u hu
    have hj : j < n * R.size := by
      have := (List.getElem?_eq_some_iff.1 hu).1
      rwa [encL_len hs, e1] at this
    have hd : j / R.size < n := by rw [Nat.div_lt_iff_lt_mul hp]; exact hj
    have hm : j % R.size < R.size := Nat.mod_lt _ hp
    obtain ⟨b, o, cs, hA, _, _, hrel, hc⟩ := h.at_ hd
    injection hA with hA
    subst hA
    obtain rfl := hr _ _ hrel
    have e2 : j / R.size * R.size + j % R.size = j := by rw [Nat.mul_comm]; exact Nat.div_add_mod ..
    have := encL_at hs l (j / R.size) (by omega) (j % R.size) hm
    rw [e2, hu] at this
    have hm2 : j % R.size < (enc (l[j / R.size]'(by omega))).length := by rw [hs]; exact hm
    have hcc := hc (j % R.size) hm2
    rw [List.getElem?_eq_getElem hm2] at this
    injection this with this
    rw [← this] at hcc
    have ea : (⟨b, o, none⟩ : Addr).add j = ⟨b, o + j, none⟩ := by unfold Addr.add; split <;> simp_all
    rw [ea, show o + j = o + j / R.size * R.size + j % R.size by omega]; exact hcc
end
def insV (x : Ins) : List Value := [.int .i64 x.1, .int .i64 x.2]
def rowV (x : Row) : List Value := [.int .i64 x.1, .int .i64 x.2.1, .int .i64 x.2.2]
theorem insV_len (x : Ins) : (insV x).length = 2 := rfl
theorem rowV_len (x : Row) : (rowV x).length = 3 := rfl
theorem insV_one (x : Int × Int) : ∀ u ∈ insV x, u.oneCell' = true := by
  intro u hu; simp [insV] at hu; rcases hu with rfl | rfl <;> rfl
theorem rowV_one (x : Row) : ∀ u ∈ rowV x, u.oneCell' = true := by
  intro u hu; simp [rowV] at hu; rcases hu with rfl | rfl | rfl <;> rfl
def okIns (x : Int × Int) : Prop := I64 x.1 ∧ I64 x.2
theorem ins_own {w : World} {x : Ins} (h : okIns x) : InsR.own w [] (insV x) x := Ins_own w x.1 x.2 h.1 h.2
theorem tok_own {w : World} {x : Tok} (h : okIns x) : TokR.own w [] (insV x) x := Tok_own w x.1 x.2 h.1 h.2
theorem row_own {w : World} {x : Row} (h : I64 x.1 ∧ I64 x.2.1 ∧ I64 x.2.2) : RowR.own w [] (rowV x) x := Row_own w x.1 x.2.1 x.2.2 h.1 h.2.1 h.2.2
theorem src_ins {w : World} {lo hi : Nat} {A : Option Addr} {n c : Nat} {l : List Ins} (h : Sl InsR w lo hi A n c l) : Src w 2 A n (encL insV l) :=
  src_flat h (fun cs x hr => by obtain ⟨a, b, rfl, rfl, _⟩ := Ins_rel hr; rfl) (fun _ => rfl) (by decide)
theorem src_toks {w : World} {lo hi : Nat} {A : Option Addr} {n c : Nat} {l : List Tok} (h : Sl TokR w lo hi A n c l) : Src w 2 A n (encL insV l) :=
  src_flat h (fun cs x hr => by obtain ⟨a, b, rfl, rfl, _⟩ := Tok_rel hr; rfl) (fun _ => rfl) (by decide)
theorem encL_map (l : List Int) : encL (fun x : Int => [Value.int .i64 x]) l = l.map (Value.int .i64) := by
  unfold encL; induction l with
  | nil => rfl
  | cons x l ih => rw [List.flatMap_cons, ih]; rfl
/-- The number of one instruction is put anew. -/
theorem ins_patch {w : World} {base e g n c : Nat} {l : List Ins} (h : w.ownsRow base e 2 (.slice (some ⟨g, 0, none⟩) n c) n (encL insV l)) {i : Nat} (hi : i < l.length) (m : Int) :
    (w.setCell ⟨g, i * 2 + 1, none⟩ (.int .i64 m)).ownsRow base e 2 (.slice (some ⟨g, 0, none⟩) n c) n (encL insV (l.set i ((l[i]).1, m))) := by
  have := (h.stored (i * 2 + 1) (.int .i64 m)).1
  rwa [encL_set insV_len l i hi 1 (by decide) _ ((l[i]).1, m) rfl] at this
theorem cell_new2 (w : World) (u v : Value) (t : TypeId) {g : Nat} (hg : w.heap.size = g) : ∀ j x, [u, v][j]? = some x → (w.alloc (.cells #[u, v] t)).cell? ((⟨g, 0, none⟩ : Addr).add j) = some x := by
  intro j x h
  subst hg
  match j, h with
  | 0, h =>
    simp at h
    subst h
    rw [show (⟨w.heap.size, 0, none⟩ : Addr).add 0 = ⟨w.heap.size, 0, none⟩ from rfl]
    rw [cell_of_row _ _ _ _ _ _ (heap_alloc_new w _)]
    rfl
  | 1, h =>
    simp at h
    subst h
    rw [show (⟨w.heap.size, 0, none⟩ : Addr).add 1 = ⟨w.heap.size, 1, none⟩ from rfl]
    rw [cell_of_row _ _ _ _ _ _ (heap_alloc_new w _)]
    rfl
  | j + 2, h => simp at h
theorem encL_snoc {l : List Ins} {p q : Int} : encL insV (l ++ [(p, q)]) = encL insV l ++ [.int .i64 p, .int .i64 q] := by rw [encL_append, encL_one]; rfl
theorem encL_snoc2 {l : List Ins} {p q p' q' : Int} : encL insV (l ++ [(p, q), (p', q')]) = encL insV l ++ [.int .i64 p, .int .i64 q, .int .i64 p', .int .i64 q'] := by rw [encL_append]; rfl
/-- A row of the call's own that holds instructions. -/
def InsRow (w : World) (base : Nat) (v : Value) (l : List Ins) : Prop := w.ownsRow base 133 2 v l.length (encL insV l)
theorem InsRow.below {w w' : World} {base : Nat} {v : Value} {l : List Ins} (h : InsRow w base v l) (hb : Below w.heap.size w w') : InsRow w' base v l := ownsRow_below h hb
theorem InsRow.nil_ (w : World) (base : Nat) : InsRow w base (.slice none 0 0) [] := by unfold InsRow; simpa [encL] using World.ownsRow_nil _ _ _ _
theorem InsRow.lt {w : World} {base : Nat} {v : Value} {l : List Ins} (h : InsRow w base v l) : ∀ g, v.ownBlock = some g → base ≤ g ∧ g < w.heap.size := fun g hg => World.ownsRow.lt h g hg
theorem InsRow.form {w : World} {base : Nat} {v : Value} {l : List Ins} (h : InsRow w base v l) : ∃ A n c, v = .slice A n c ∧ n = l.length := by
  rcases h.2 with ⟨h, h0⟩ | ⟨g, cap, cur, h, _⟩
  · exact ⟨_, _, _, h, h0.symm⟩
  · exact ⟨_, _, _, h, rfl⟩
theorem RetOwn.insRow {l : List Ins} {w w' : World} {v : Value} (h : InsRow w' w.heap.size v l) (hi : ∀ x, x ∈ l → okIns x) (hb : Below w.heap.size w w') : RetOwn InsR 133 l w (.returned v) w' := RetOwn.flat h (fun x hx => ins_own (hi x hx)) hb
theorem Try.infoIns2 : (Try.prog.info? 133).map (fun i => (i.zero, i.size, i.bytes)) = some (some (.agg #[.int .i64 0, .int .i64 0]), 2, 16) := by kernel_rfl
section
variable (w : World)
/-- One instruction more. -/
theorem wpl_app1 {ops : Array Oper} {rest : List Oper} {o : Oper} {a : Act} {Q : Exit → Act → World → Prop} (hgd : o.guard = none) (s x : Operand)
    (ho : o.op = .call { callee := .builtin .append, args := #[s, x], argTypes := #[38, 38] })
    (base : Nat) (v : Value) (l : List Ins) (hs : a.eval s = v) (hown : InsRow w base v l) (ad : Addr) (c : Nat) (p q : Int) (hx : a.eval x = .slice (some ad) 1 c)
    (hnews : ∀ j u, ([.int .i64 p, .int .i64 q] : List Value)[j]? = some u → w.cell? (ad.add j) = some u) (hl : l.length ≤ 1099511627776) (hbase : base ≤ w.heap.size)
    (h : ∀ v' w', InsRow w' base v' (l ++ [(p, q)]) → w.grownBy w' v.ownBlock → (v'.ownBlock = v.ownBlock ∨ v'.ownBlock = some w.heap.size) → wpList Try.prog ops Q rest (a.put o.dst v') w') :
    wpList Try.prog ops Q (o :: rest) a w := by
  obtain ⟨inf, hif, hz0, hz1, hz2⟩ := info_parts Try.infoIns2
  refine wpList_append_own_at w hgd s x _ ho base 133 inf _ 2 16 Try.underlying38 hif hz0 hz1 hz2 rfl (by decide) v _ _ hs hown ad 1 c _ hx rfl hnews (by intro u hu; simp at hu; rcases hu with rfl | rfl <;> rfl) (by unfold maxLen; omega) (by omega) hbase ?_
  intro v' w' h1 h2 _ h3
  refine h v' w' ?_ h2 h3
  unfold InsRow
  rw [encL_snoc, List.length_append]; exact h1
theorem wpl_app2 {ops : Array Oper} {rest : List Oper} {o : Oper} {a : Act} {Q : Exit → Act → World → Prop} (hgd : o.guard = none) (s x : Operand)
    (ho : o.op = .call { callee := .builtin .append, args := #[s, x], argTypes := #[38, 38] })
    (base : Nat) (v : Value) (l : List Ins) (hs : a.eval s = v) (hown : InsRow w base v l) (ad : Addr) (c : Nat) (p q p' q' : Int) (hx : a.eval x = .slice (some ad) 2 c)
    (hnews : ∀ j u, ([.int .i64 p, .int .i64 q, .int .i64 p', .int .i64 q'] : List Value)[j]? = some u → w.cell? (ad.add j) = some u) (hl : l.length ≤ 1099511627776) (hbase : base ≤ w.heap.size)
    (h : ∀ v' w', InsRow w' base v' (l ++ [(p, q), (p', q')]) → w.grownBy w' v.ownBlock → (v'.ownBlock = v.ownBlock ∨ v'.ownBlock = some w.heap.size) → wpList Try.prog ops Q rest (a.put o.dst v') w') :
    wpList Try.prog ops Q (o :: rest) a w := by
  obtain ⟨inf, hif, hz0, hz1, hz2⟩ := info_parts Try.infoIns2
  refine wpList_append_own_at w hgd s x _ ho base 133 inf _ 2 16 Try.underlying38 hif hz0 hz1 hz2 rfl (by decide) v _ _ hs hown ad 2 c _ hx rfl hnews (by intro u hu; simp at hu; rcases hu with rfl | rfl | rfl | rfl <;> rfl) (by unfold maxLen; omega) (by omega) hbase ?_
  intro v' w' h1 h2 _ h3
  refine h v' w' ?_ h2 h3
  unfold InsRow
  rw [encL_snoc2, List.length_append]; exact h1
/-- A list of instructions more; nil where there are none. -/
theorem wpl_appS {ops : Array Oper} {rest : List Oper} {o : Oper} {a : Act} {Q : Exit → Act → World → Prop} (hgd : o.guard = none) (s x : Operand)
    (ho : o.op = .call { callee := .builtin .append, args := #[s, x], argTypes := #[38, 38] })
    (base : Nat) (v : Value) (l : List Ins) (hs : a.eval s = v) (hown : InsRow w base v l) (A : Option Addr) (m c : Nat) (l2 : List Ins) (hx : a.eval x = .slice A m c)
    (hsl : Sl InsR w 0 w.heap.size A m c l2) (hl : l.length + m ≤ 2199023255552) (hbase : base ≤ w.heap.size)
    (h : ∀ v' w', InsRow w' base v' (l ++ l2) → w.grownBy w' v.ownBlock → (v'.ownBlock = v.ownBlock ∨ v'.ownBlock = some w.heap.size) → wpList Try.prog ops Q rest (a.put o.dst v') w') :
    wpList Try.prog ops Q (o :: rest) a w := by
  obtain ⟨inf, hif, hz0, hz1, hz2⟩ := info_parts Try.infoIns2
  refine wpList_append_src w hgd s x _ ho base 133 inf _ 2 16 Try.underlying38 hif hz0 hz1 hz2 rfl (by decide) v _ _ hs hown A m c _ hx (src_ins hsl) (encL_one' insV_one) (by unfold maxLen; omega) (by omega) hbase ?_
  intro v' w' h1 h2 h3
  refine h v' w' ?_ h2 h3
  unfold InsRow
  rw [encL_append, List.length_append, hsl.lenEq]; exact h1
theorem step_appS {ops : Array Oper} {o : Oper} {a : Act} {K : Act → World → Prop} {Q : Exit → Act → World → Prop} {E : Prop} (hgd : o.guard = none) (s x : Operand)
    (ho : o.op = .call { callee := .builtin .append, args := #[s, x], argTypes := #[38, 38] })
    (base : Nat) (v : Value) (l : List Ins) (hs : a.eval s = v) (hown : InsRow w base v l) (A : Option Addr) (m c : Nat) (l2 : List Ins) (hx : a.eval x = .slice A m c)
    (hsl : Sl InsR w 0 w.heap.size A m c l2) (hl : l.length + m ≤ 2199023255552) (hbase : base ≤ w.heap.size)
    (h : ∀ v' w', InsRow w' base v' (l ++ l2) → w.grownBy w' v.ownBlock → (v'.ownBlock = v.ownBlock ∨ v'.ownBlock = some w.heap.size) → K (a.put o.dst v') w') :
    if Region.wanted o (yielded ops a.tmps) = true then Oper.wp Try.prog o a w K Q else E := by
  obtain ⟨inf, hif, hz0, hz1, hz2⟩ := info_parts Try.infoIns2
  refine step_append_src w hgd s x _ ho base 133 inf _ 2 16 Try.underlying38 hif hz0 hz1 hz2 rfl (by decide) v _ _ hs hown A m c _ hx (src_ins hsl) (encL_one' insV_one) (by unfold maxLen; omega) (by omega) hbase ?_
  intro v' w' h1 h2 h3
  refine h v' w' ?_ h2 h3
  unfold InsRow
  rw [encL_append, List.length_append, hsl.lenEq]; exact h1
end
end Go.Proofs.Ythdpkcmeepabjaa

/- The code of a function. Plain law. -/
set_option linter.unusedVariables false
set_option linter.unusedSimpArgs false
namespace Go.Proofs.Ythdpkcmeepabjaa
open Go.RowKit
def tokIns (t : Tok) : Ins := if t.1 = 1 then (1, t.2) else if t.1 = 2 then (2, t.2) else if t.1 = 11 then (7, t.2) else if t.1 = 9 then (5, 0) else if t.1 = 10 then (6, 0) else (4, t.1)
def exOf (ss : List Stmt) (n : Int) : List Tok := (ss[n.toNat]?.map fun s => s.2.2.1).getD []
def idxI (l : List Int) (n : Int) : Int := if n ∈ l then (l.idxOf n : Int) else -1
/-- The instructions of a statement at a place; blk: those of a block at a place. -/
def stmtC (ss : List Stmt) (blk : Nat → List Int → List Ins) (n : Int) (a : Nat) : List Ins :=
  let e := (exOf ss n).map tokIns
  let k := kindOf ss n
  if k = 1 then e ++ [(3, nOf ss n)]
  else if k = 2 then e ++ [(8, 0)]
  else if k = 9 then e ++ [(9, 0)]
  else if k = 4 then e ++ [(13, 0)]
  else if k = 5 then e ++ [(15, 0), (16, 0)]
  else if k = 6 then [(14, 0)]
  else if k = 3 then [(12, idxI (sitesF ss) n)]
  else
    let t := blk (a + e.length + 1) (thenOf ss n)
    let o := a + e.length + 1 + t.length + 1
    if k = 8 then e ++ ([(11, (o : Int))] ++ (t ++ [(10, (a : Int))]))
    else
      let r := blk o (elseOf ss n)
      e ++ ([(11, (o : Int))] ++ (t ++ ([(10, ((o + r.length : Nat) : Int))] ++ r)))
/-- The instructions of a block at a place (with so much fuel). -/
def codeB (ss : List Stmt) : Nat → Nat → List Int → List Ins
  | 0, _, _ => []
  | f + 1, a, b => b.foldl (fun out n => out ++ stmtC ss (codeB ss f) n (a + out.length)) []
theorem codeB_nil (ss : List Stmt) (f a : Nat) : codeB ss f a [] = [] := by cases f <;> rfl
theorem codeB_snoc (ss : List Stmt) (f a : Nat) (b : List Int) (n : Int) : codeB ss (f + 1) a (b ++ [n]) = codeB ss (f + 1) a b ++ stmtC ss (codeB ss f) n (a + (codeB ss (f + 1) a b).length) := by
  simp only [codeB, List.foldl_append, List.foldl_cons, List.foldl_nil]
theorem codeB_succ (ss : List Stmt) (f a : Nat) (b : List Int) (k : Nat) (hk : k < b.length) : codeB ss (f + 1) a (b.take (k + 1)) = codeB ss (f + 1) a (b.take k) ++ stmtC ss (codeB ss f) b[k] (a + (codeB ss (f + 1) a (b.take k)).length) := by
  rw [List.take_succ_eq_append_getElem hk, codeB_snoc]
/-- What is asked of a statement. -/
def lowS (s : Stmt) : Prop := (1 ≤ s.1 ∧ s.1 ≤ 9) ∧ ((s.1 = 3 ∨ s.1 = 6) → s.2.2.1 = []) ∧ s.2.2.1.length ≤ 12 ∧ (0 ≤ s.2.1 ∧ s.2.1 ≤ 100) ∧
  ∀ t, t ∈ s.2.2.1 → (0 ≤ t.1 ∧ t.1 ≤ 11) ∧ I64 t.2 ∧ ((t.1 = 9 ∨ t.1 = 10) → t.2 = 0)
def lowOk (ss : List Stmt) : Prop := ∀ s, s ∈ ss → lowS s
theorem exOf_at {ss : List Stmt} {k : Nat} (h : k < ss.length) : exOf ss (k : Int) = ss[k].2.2.1 ∧ kindOf ss (k : Int) = ss[k].1 ∧ nOf ss (k : Int) = ss[k].2.1 ∧ thenOf ss (k : Int) = ss[k].2.2.2.1 ∧ elseOf ss (k : Int) = ss[k].2.2.2.2 := by
  unfold exOf kindOf nOf thenOf elseOf
  simp only [Int.toNat_natCast, List.getElem?_eq_getElem h, Option.map_some, Option.getD_some, and_self]
theorem exOf_len {ss : List Stmt} (h : lowOk ss) (n : Int) : (exOf ss n).length ≤ 12 := by
  unfold exOf
  rcases e : ss[n.toNat]? with _ | s
  · simp
  · exact (h s (List.mem_of_getElem? e)).2.2.1
theorem stmtC_len {ss : List Stmt} {blk : Nat → List Int → List Ins} {n : Int} {a : Nat} (g : List Int → Nat) (hb : ∀ a b, (blk a b).length ≤ 15 * g b) (he : (exOf ss n).length ≤ 12) : (stmtC ss blk n a).length ≤ 15 * (1 + g (thenOf ss n) + g (elseOf ss n)) := by
  unfold stmtC
  dsimp only
  have e1 : ((exOf ss n).map tokIns).length ≤ 12 := by simpa using he
  generalize (exOf ss n).map tokIns = e at e1
  have t1 := hb (a + e.length + 1) (thenOf ss n)
  generalize blk (a + e.length + 1) (thenOf ss n) = t at t1
  have r1 := hb (a + e.length + 1 + t.length + 1) (elseOf ss n)
  generalize blk (a + e.length + 1 + t.length + 1) (elseOf ss n) = r at r1
  split <;> (try split) <;> (try split) <;> (try split) <;> (try split) <;> (try split) <;> (try split) <;> (try split) <;> simp only [List.length_append, List.length_cons, List.length_nil] <;> omega
theorem codeB_len {ss : List Stmt} (h : lowOk ss) : ∀ (f a : Nat) (b : List Int), (codeB ss f a b).length ≤ 15 * (ordF ss f b).length := by
  intro f
  induction f with
  | zero => intro a b; simp [codeB]
  | succ f ih =>
    intro a b
    have key : ∀ k, k ≤ b.length → (codeB ss (f + 1) a (b.take k)).length ≤ 15 * (ordF ss (f + 1) (b.take k)).length := by
      intro k
      induction k with
      | zero => intro _; simp [codeB_nil]
      | succ k ihk =>
        intro hk
        have h1 := ihk (by omega)
        have h2 := stmtC_len (a := a + (codeB ss (f + 1) a (b.take k)).length) (fun b => (ordF ss f b).length) ih (exOf_len h b[k])
        rw [codeB_succ ss f a b k (by omega), ordF_succ ss f b k (by omega)]
        simp only [List.length_append, List.length_cons, List.length_nil]
        omega
    have := key b.length (Nat.le_refl _)
    rwa [List.take_length] at this
def okI (x : Ins) : Prop := I64 x.1 ∧ I64 x.2
theorem tokIns_ok {t : Tok} (h : (0 ≤ t.1 ∧ t.1 ≤ 11) ∧ I64 t.2) : okI (tokIns t) := by
  unfold okI tokIns
  obtain ⟨h1, h2⟩ := h
  have h3 : I64 t.1 := by unfold I64; omega
  split
  · exact ⟨by unfold I64; omega, h2⟩
  · split
    · exact ⟨by unfold I64; omega, h2⟩
    · split
      · exact ⟨by unfold I64; omega, h2⟩
      · split
        · exact ⟨by unfold I64; omega, by unfold I64; simp⟩
        · split
          · exact ⟨by unfold I64; omega, by unfold I64; simp⟩
          · exact ⟨by unfold I64; omega, h3⟩
theorem ex_ok {ss : List Stmt} (h : lowOk ss) (n : Int) : ∀ x, x ∈ (exOf ss n).map tokIns → okI x := by
  intro x hx
  obtain ⟨t, ht, rfl⟩ := List.mem_map.1 hx
  unfold exOf at ht
  rcases e : ss[n.toNat]? with _ | s
  · rw [e] at ht; simp at ht
  · rw [e] at ht
    have := (h s (List.mem_of_getElem? e)).2.2.2.2 t ht
    exact tokIns_ok ⟨this.1, this.2.1⟩
theorem idxI_ok {l : List Int} {n : Int} (h : l.length ≤ 1099511627776) : I64 (idxI l n) := by
  unfold idxI I64
  split
  · rename_i hm
    have := List.idxOf_lt_length_iff.2 hm
    omega
  · omega
theorem nOf_ok {ss : List Stmt} (h : lowOk ss) (n : Int) : 0 ≤ nOf ss n ∧ nOf ss n ≤ 100 := by
  unfold nOf
  rcases e : ss[n.toNat]? with _ | s
  · simp
  · exact (h s (List.mem_of_getElem? e)).2.2.2.1
theorem stmtC_ok {ss : List Stmt} (h : lowOk ss) (hs : ss.length ≤ 1099511627776) {blk : Nat → List Int → List Ins} {n : Int} {a : Nat} (hb : ∀ a b, a + (blk a b).length ≤ 1099511627776 → ∀ x, x ∈ blk a b → okI x) (hl : a + (stmtC ss blk n a).length ≤ 1099511627776) : ∀ x, x ∈ stmtC ss blk n a → okI x := by
  have e1 := ex_ok h n
  have hsi := idxI_ok (n := n) (Nat.le_trans (sitesF_len ss) hs)
  have hn := nOf_ok h n
  have hn2 : I64 (nOf ss n) := by unfold I64; omega
  have sm : ∀ i j : Int, (0 ≤ i ∧ i ≤ 20) → I64 j → okI (i, j) := fun i j h1 h2 => ⟨by unfold I64; show _ ≤ i ∧ i ≤ _; omega, h2⟩
  have z : I64 0 := by unfold I64; omega
  unfold stmtC at hl ⊢
  dsimp only at hl ⊢
  generalize (exOf ss n).map tokIns = e at e1 hl
  have t1 := hb (a + e.length + 1) (thenOf ss n)
  generalize blk (a + e.length + 1) (thenOf ss n) = t at t1 hl
  have r1 := hb (a + e.length + 1 + t.length + 1) (elseOf ss n)
  generalize blk (a + e.length + 1 + t.length + 1) (elseOf ss n) = r at r1 hl
  intro x hx
  split at hx
  · rcases List.mem_append.1 hx with hx | hx
    · exact e1 x hx
    · simp at hx; subst hx; exact sm _ _ (by omega) hn2
  rename_i h1
  rw [if_neg h1] at hl
  split at hx
  · rcases List.mem_append.1 hx with hx | hx
    · exact e1 x hx
    · simp at hx; subst hx; exact sm _ _ (by omega) z
  rename_i h2
  rw [if_neg h2] at hl
  split at hx
  · rcases List.mem_append.1 hx with hx | hx
    · exact e1 x hx
    · simp at hx; subst hx; exact sm _ _ (by omega) z
  rename_i h3
  rw [if_neg h3] at hl
  split at hx
  · rcases List.mem_append.1 hx with hx | hx
    · exact e1 x hx
    · simp at hx; subst hx; exact sm _ _ (by omega) z
  rename_i h4
  rw [if_neg h4] at hl
  split at hx
  · rcases List.mem_append.1 hx with hx | hx
    · exact e1 x hx
    · simp at hx; rcases hx with rfl | rfl <;> exact sm _ _ (by omega) z
  rename_i h5
  rw [if_neg h5] at hl
  split at hx
  · simp at hx; subst hx; exact sm _ _ (by omega) z
  rename_i h6
  rw [if_neg h6] at hl
  split at hx
  · simp at hx; subst hx; exact sm _ _ (by omega) hsi
  rename_i h7
  rw [if_neg h7] at hl
  split at hx
  · rename_i h8
    rw [if_pos h8] at hl
    simp only [List.length_append, List.length_cons, List.length_nil] at hl
    simp only [List.mem_append, List.mem_singleton] at hx
    rcases hx with hx | rfl | hx | rfl
    · exact e1 x hx
    · exact sm _ _ (by omega) (by unfold I64; omega)
    · exact t1 (by omega) x hx
    · exact sm _ _ (by omega) (by unfold I64; omega)
  · rename_i h8
    rw [if_neg h8] at hl
    simp only [List.length_append, List.length_cons, List.length_nil] at hl
    simp only [List.mem_append, List.mem_singleton] at hx
    rcases hx with hx | rfl | hx | rfl | hx
    · exact e1 x hx
    · exact sm _ _ (by omega) (by unfold I64; omega)
    · exact t1 (by omega) x hx
    · exact sm _ _ (by omega) (by unfold I64; omega)
    · exact r1 (by omega) x hx
theorem codeB_ok {ss : List Stmt} (h : lowOk ss) (hs : ss.length ≤ 1099511627776) : ∀ (f a : Nat) (b : List Int), a + (codeB ss f a b).length ≤ 1099511627776 → ∀ x, x ∈ codeB ss f a b → okI x := by
  intro f
  induction f with
  | zero => intro a b _ x hx; simp [codeB] at hx
  | succ f ih =>
    intro a b hl
    have key : ∀ k, k ≤ b.length → a + (codeB ss (f + 1) a (b.take k)).length ≤ 1099511627776 → ∀ x, x ∈ codeB ss (f + 1) a (b.take k) → okI x := by
      intro k
      induction k with
      | zero => intro _ _ x hx; simp [codeB_nil] at hx
      | succ k ihk =>
        intro hk hl x hx
        rw [codeB_succ ss f a b k (by omega)] at hx hl
        rw [List.length_append] at hl
        rcases List.mem_append.1 hx with hx | hx
        · exact ihk (by omega) (by omega) x hx
        · exact stmtC_ok h hs ih (by omega) x hx
    have := key b.length (Nat.le_refl _)
    rw [List.take_length] at this
    exact this hl
theorem codeB_take_le (ss : List Stmt) (f a : Nat) (b : List Int) : ∀ k, (codeB ss f a (b.take k)).length ≤ (codeB ss f a b).length := by
  intro k
  cases f with
  | zero => simp [codeB]
  | succ f =>
    have step : ∀ d, k + d ≤ b.length → (codeB ss (f + 1) a (b.take k)).length ≤ (codeB ss (f + 1) a (b.take (k + d))).length := by
      intro d
      induction d with
      | zero => intro _; exact Nat.le_refl _
      | succ d ih =>
        intro hd
        have := ih (by omega)
        rw [show k + (d + 1) = (k + d) + 1 by omega, codeB_succ ss f a b (k + d) (by omega), List.length_append]; omega
    by_cases hk : k ≤ b.length
    · have := step (b.length - k) (by omega)
      rwa [show k + (b.length - k) = b.length by omega, List.take_length] at this
    · rw [List.take_of_length_le (by omega)]; exact Nat.le_refl _
section
variable {ss : List Stmt} {blk : Nat → List Int → List Ins} {n : Int} {a : Nat} {ex : List Tok} {y : Int} {s3 s4 : List Int}
theorem stmtC_1 (h : kindOf ss n = 1) (he : exOf ss n = ex) (hy : nOf ss n = y) : stmtC ss blk n a = ex.map tokIns ++ [(3, y)] := by unfold stmtC; simp [h, he, hy]
theorem stmtC_2 (h : kindOf ss n = 2) (he : exOf ss n = ex) : stmtC ss blk n a = ex.map tokIns ++ [(8, 0)] := by unfold stmtC; simp [h, he]
theorem stmtC_9 (h : kindOf ss n = 9) (he : exOf ss n = ex) : stmtC ss blk n a = ex.map tokIns ++ [(9, 0)] := by unfold stmtC; simp [h, he]
theorem stmtC_4 (h : kindOf ss n = 4) (he : exOf ss n = ex) : stmtC ss blk n a = ex.map tokIns ++ [(13, 0)] := by unfold stmtC; simp [h, he]
theorem stmtC_5 (h : kindOf ss n = 5) (he : exOf ss n = ex) : stmtC ss blk n a = ex.map tokIns ++ [(15, 0), (16, 0)] := by unfold stmtC; simp [h, he]
theorem stmtC_6 (h : kindOf ss n = 6) : stmtC ss blk n a = [(14, 0)] := by unfold stmtC; simp [h]
theorem stmtC_3 (h : kindOf ss n = 3) : stmtC ss blk n a = [(12, idxI (sitesF ss) n)] := by unfold stmtC; simp [h]
theorem stmtC_8 (h : kindOf ss n = 8) (he : exOf ss n = ex) (ht : thenOf ss n = s3) {i2 i4 : Nat} (h2 : a + ex.length + 1 = i2) (h4 : i2 + (blk i2 s3).length + 1 = i4) : stmtC ss blk n a = ex.map tokIns ++ ([(11, (i4 : Int))] ++ (blk i2 s3 ++ [(10, (a : Int))])) := by
  subst h2 h4; unfold stmtC; simp [h, he, ht]
theorem stmtC_7 (h : kindOf ss n = 7) (he : exOf ss n = ex) (ht : thenOf ss n = s3) (hf : elseOf ss n = s4) {i2 i4 i5 : Nat} (h2 : a + ex.length + 1 = i2) (h4 : i2 + (blk i2 s3).length + 1 = i4) (h5 : i4 + (blk i4 s4).length = i5) : stmtC ss blk n a = ex.map tokIns ++ ([(11, (i4 : Int))] ++ (blk i2 s3 ++ ([(10, (i5 : Int))] ++ blk i4 s4))) := by
  subst h2 h4 h5; unfold stmtC; simp [h, he, ht, hf]
end
/-- A code's rows: the whole, then one for each site. -/
def padI (pad : Nat) (m : Nat) : List Ins := (List.range m).map fun (i : Nat) => (17, ((m - 1 - i : Nat) : Int))
def padR (pad : Nat) (m : Nat) : List Row := (List.range m).map fun (i : Nat) => (((pad + i : Nat) : Int), ((pad + i + 1 : Nat) : Int), ((pad + i + 1 : Nat) : Int))
/-- The code of a function. -/
def lowF (f : Func) : Code :=
  let b := codeB f.2.2.2 (f.2.2.2.length + 1) 0 f.2.2.1 ++ [(16, 0)]
  let m := (sitesF f.2.2.2).length
  (f.1, f.2.1, (sitesF f.2.2.2).map (nOf f.2.2.2), b ++ (padI b.length m ++ [(18, 0)]), (0, ((b.length : Nat) : Int), ((b.length : Nat) : Int)) :: padR b.length m)
def lowB (f : Func) : Bool := decide ((lowF f).2.2.2.1.length ≤ 300)
/-- What a good program says of a function. -/
theorem highF_toks {e : List Tok} {v : Int} {ps : List Int} (h : 0 < highF e v ps) : e.length ≤ 12 ∧ ∀ t, t ∈ e → tokB t v ps.length = true := by
  have hl : 1 ≤ e.length ∧ e.length ≤ 12 := by
    unfold highF at h
    split at h
    · assumption
    · omega
  refine ⟨hl.2, fun t ht => ?_⟩
  obtain ⟨k, hk, rfl⟩ := List.getElem_of_mem ht
  have h1 : foldH v ps (e.take (k + 1)) ≠ none := fun hn => by have := highF_dead (k := k + 1) hn; omega
  rw [foldH_succ hk] at h1
  unfold stepH at h1
  split at h1
  · exact absurd rfl h1
  · split at h1
    · rename_i hc; exact hc.1
    · exact absurd rfl h1
theorem tokB_low {t : Tok} {v f : Int} (hv : v ≤ 100) (hf : f ≤ 100) (h : tokB t v f = true) : (0 ≤ t.1 ∧ t.1 ≤ 11) ∧ I64 t.2 ∧ ((t.1 = 9 ∨ t.1 = 10) → t.2 = 0) := by
  unfold tokB at h
  split at h
  · rename_i h1
    have := inB_iff.1 h
    exact ⟨by omega, by unfold I64; omega, by omega⟩
  · split at h
    · have := inB_iff.1 h
      exact ⟨by omega, by unfold I64; omega, by omega⟩
    · split at h
      · have := inB_iff.1 h
        exact ⟨by omega, by unfold I64; omega, by omega⟩
      · rw [Bool.and_eq_true, beq_iff_eq] at h
        have := inB_iff.1 h.1
        exact ⟨by omega, by unfold I64; omega, fun _ => h.2⟩
theorem stmtOk_low {v : Int} {ps : List Int} {s : Stmt} (hv : v ≤ 100) (hp : ps.length ≤ 100) (h : stmtOkI v ps s = true) : lowS s := by
  obtain ⟨k, n, ex, t, e⟩ := s
  unfold stmtOkI at h
  simp only [Bool.and_eq_true, decide_eq_true_eq] at h
  obtain ⟨h0, h⟩ := h
  have hex : 0 < highF ex v ps → ex.length ≤ 12 ∧ ∀ t, t ∈ ex → (0 ≤ t.1 ∧ t.1 ≤ 11) ∧ I64 t.2 ∧ ((t.1 = 9 ∨ t.1 = 10) → t.2 = 0) := fun h => ⟨(highF_toks h).1, fun t ht => tokB_low hv (by omega) ((highF_toks h).2 t ht)⟩
  unfold stmtI at h
  unfold lowS
  simp only
  by_cases hk : inB k 1 9 = true
  rotate_left
  · rw [if_pos (Or.inl (by simpa using hk))] at h; cases h
  have hk' := inB_iff.1 hk
  split at h
  · cases h
  · split at h
    · rename_i h3
      simp only [Bool.and_eq_true, Bool.or_eq_true, beq_iff_eq] at h
      obtain rfl : ex = [] := List.eq_nil_of_length_eq_zero h.1
      refine ⟨hk', fun _ => rfl, by simp, ?_, fun t ht => by simp at ht⟩
      rcases h.2 with h | h
      · omega
      · have := inB_iff.1 h.1; omega
    · split at h
      · simp only [Bool.and_eq_true, beq_iff_eq] at h
        obtain rfl : ex = [] := List.eq_nil_of_length_eq_zero h.1
        exact ⟨hk', fun _ => rfl, by simp, by omega, fun t ht => by simp at ht⟩
      · split at h
        · simp only [Bool.and_eq_true, decide_eq_true_eq] at h
          have := inB_iff.1 h.1
          have he := hex h.2
          exact ⟨hk', by omega, he.1, by omega, he.2⟩
        · simp only [Bool.and_eq_true, decide_eq_true_eq, beq_iff_eq] at h
          have he := hex h.2
          exact ⟨hk', by omega, he.1, by omega, he.2⟩
structure LowF (f : Func) : Prop where
  all : okAll f.2.2.2
  body : okB f.2.2.2 0 f.2.2.1
  ok : lowOk f.2.2.2
  long : f.2.2.2.length ≤ 16
  ord : (ordA f.2.2.2 f.2.2.1).length = f.2.2.2.length
  sites : (sitesF f.2.2.2).length ≤ 4
  par : 0 ≤ f.1 ∧ f.1 ≤ 2
  vars : f.1 ≤ f.2.1 ∧ f.2.1 ≤ 6
theorem goodP_low {fs : List Func} (h : goodP fs = true) : (1 ≤ fs.length ∧ fs.length ≤ 5) ∧ ∀ f, f ∈ fs → LowF f := by
  unfold goodP at h
  simp only [Bool.and_eq_true] at h
  obtain ⟨⟨⟨h1, h2⟩, h3⟩, h4⟩ := h
  have h1 := inB_iff.1 h1
  refine ⟨by omega, fun f hf => ?_⟩
  have := List.all_eq_true.1 h4 f hf
  have hpl : (paramsF fs).length ≤ 100 := by simp [paramsF]; omega
  unfold funcOkI shapeI at this
  simp only [Bool.and_eq_true, decide_eq_true_eq] at this
  obtain ⟨⟨⟨⟨⟨⟨⟨⟨⟨g1, g2⟩, g3⟩, g4⟩, g5⟩, g6⟩, g7⟩, g8⟩, g9, g10⟩, g11⟩ := this
  have i1 := inB_iff.1 g1
  have i2 := inB_iff.1 g2
  exact ⟨rangesB_ok g5, inBs_ok (lo := 0) g7, fun s hs => stmtOk_low (by omega) hpl (List.all_eq_true.1 g11 s hs), g3, g9, g4, by omega, by omega⟩
theorem codeB_long {f : Func} (h : LowF f) : (codeB f.2.2.2 (f.2.2.2.length + 1) 0 f.2.2.1).length ≤ 240 := by
  have h1 := codeB_len h.ok (f.2.2.2.length + 1) 0 f.2.2.1
  have h2 := h.ord
  unfold ordA at h2
  have := h.long
  omega
theorem idxOf_take {l : List Int} {n : Int} {k : Nat} (hk : k < l.length) (h : ¬ n ∈ l.take k) (he : l[k] = n) : idxI l n = (k : Int) := by
  have hm : n ∈ l := he ▸ List.getElem_mem hk
  unfold idxI
  rw [if_pos hm]
  have e : l = l.take k ++ l[k] :: l.drop (k + 1) := by simp
  congr 1
  conv => lhs; rw [e]
  rw [List.idxOf_append, if_neg h, he, List.idxOf_cons_self, List.length_take]
  omega
theorem set_mid {α : Type} (a b : List α) (x y : α) {i : Nat} (h : i = a.length) : (a ++ ([x] ++ b)).set i y = a ++ ([y] ++ b) := by
  subst h; simp
end Go.Proofs.Ythdpkcmeepabjaa

/- The code of an expression; a site's number: walks of both sides. Printed by lowgen.py. -/
set_option linter.unusedVariables false
set_option linter.unusedSimpArgs false
set_option maxRecDepth 100000
namespace Go.Proofs.Ythdpkcmeepabjaa
open Go.RowKit
/-- What is asked of an expression's tokens. -/
def lowT (ex : List Tok) : Prop := ∀ t, t ∈ ex → (0 ≤ t.1 ∧ t.1 ≤ 11) ∧ I64 t.2 ∧ ((t.1 = 9 ∨ t.1 = 10) → t.2 = 0)
theorem lowT_ok {ex : List Tok} (h : lowT ex) : ∀ x, x ∈ ex.map tokIns → okI x := by
  intro x hx
  obtain ⟨t, ht, rfl⟩ := List.mem_map.1 hx
  exact tokIns_ok ⟨(h t ht).1, (h t ht).2.1⟩
theorem take_map_succ {α β : Type} {f : α → β} {l : List α} {k : Nat} {y : β} (hk : k < l.length) (h : f l[k] = y) : (l.take (k + 1)).map f = (l.take k).map f ++ [y] := by
  rw [List.take_succ_eq_append_getElem hk, List.map_append, List.map_cons, List.map_nil, h]
theorem range12 {x : Int} (h0 : 0 ≤ x) (h1 : x ≤ 11) : x = 0 ∨ x = 1 ∨ x = 2 ∨ x = 3 ∨ x = 4 ∨ x = 5 ∨ x = 6 ∨ x = 7 ∨ x = 8 ∨ x = 9 ∨ x = 10 ∨ x = 11 := by omega
theorem not_mem_take_succ {l : List Int} {n : Int} {k : Nat} (hk : k < l.length) (h : ¬ n ∈ l.take k) (he : ¬ l[k] = n) : ¬ n ∈ l.take (k + 1) := by
  rw [List.take_succ_eq_append_getElem hk]
  simp only [List.mem_append, List.mem_singleton, not_or]
  exact ⟨h, fun e => he e.symm⟩
theorem idxI_none {l : List Int} {n : Int} {k : Nat} (hk : l.length ≤ k) (h : ¬ n ∈ l.take k) : idxI l n = -1 := by
  rw [List.take_of_length_le hk] at h
  unfold idxI; rw [if_neg h]
theorem slicesIndexInt (w : World) (lo hi : Nat) (A : Option Addr) (n c : Nat) (l : List Int) (x : Int) (h : Sl intR w lo hi A n c l) (hh : hi ≤ w.heap.size) (hn : n ≤ 1099511627776) :
    Calls Try.prog 149 #[.slice A n c, .int .i64 x] w (RetV (.int .i64 (idxI l x)) w) := by
  have e1 := h.lenEq
  go_enter Try.func149, Try.ntmps149
  go_wp2_with fail
  go_loopw [8] (fun i wr => ∃ k : Nat, k ≤ n ∧ i = .int .i64 k ∧ ¬ x ∈ l.take k ∧ Below w.heap.size w wr) (fun i _ => n - (intOf i).toNat)
  case atStart => exact ⟨0, Nat.zero_le _, rfl, by simp, Below.refl _ _⟩
  case round =>
    obtain ⟨k, hk, rfl, hm, hb⟩ := hrel
    by_cases hlt : k < n
    · obtain ⟨b, o, rfl, _, _, hc, _⟩ := (h.below hb hh).int_at hlt
      have hy := Lib.hid (idxOf_take (l := l) (n := x) (k := k) (by omega) hm)
      have hno := Lib.hid (not_mem_take_succ (l := l) (n := x) (k := k) (by omega) hm)
      clear hm
      generalize l[k]'(by omega) = y at hc hy hno
      by_cases he : y = x
      · have hv := Lib.hid (hy.out he)
        have hd : (x == y) = true := by simp [he]
        clear hy hno he
        go_wp2_with fail
        go_ret
        exact ⟨ret_int hv.out.symm, hb⟩
      · have hv := Lib.hid (hno.out he)
        have hd : (x == y) = false := by simp; omega
        clear hy hno he
        go_wp2_with fail
        go_roundw
        case rel => exact ⟨k + 1, by omega, by go_num, hv.out, hb⟩
        case measure => simp [intOf]; omega
    · have hv := Lib.hid (idxI_none (by omega) hm)
      clear hm
      go_wp2_with fail
      go_ret
      exact ⟨ret_int hv.out.symm, hb⟩
end Go.Proofs.Ythdpkcmeepabjaa

/- A row of instructions as the source of an append; a literal; results that are such rows. Plain lemmas. -/
set_option linter.unusedVariables false
set_option linter.unusedSimpArgs false
namespace Go.Proofs.Ythdpkcmeepabjaa
open Go.RowKit
theorem own_insRow {w : World} {base e : Nat} {F : List Nat} {v : Value} {l : List Ins} (h : OwnSl InsR w 133 F v l) (hF : ∀ k, k ∈ F → base ≤ k) : InsRow w base v l := by
  obtain ⟨csl, Fs, h1, h2, rfl, hn⟩ := h
  have e : csl.flatten = encL insV l := by
    clear h1 hF hn
    induction csl generalizing Fs l with
    | nil =>
      cases Fs <;> cases l <;> first | rfl | exact h2.elim
    | cons c csl ih =>
      cases Fs with
      | nil => cases l <;> exact h2.elim
      | cons f Fs =>
        cases l with
        | nil => exact h2.elim
        | cons x l =>
          obtain ⟨a, b, Fa, Fb, rfl, _, ⟨_, rfl, _⟩, ⟨_, rfl, _⟩, _⟩ := h2.1
          rw [List.flatten_cons, encL_cons, ih _ h2.2]; rfl
  rw [e] at h1
  refine ⟨h1.1, ?_⟩
  rcases h1.2 with h | ⟨g, cap, cur, a, _, r⟩
  · exact .inl h
  · exact .inr ⟨g, cap, cur, a, hF g (by rw [a]; simp [Value.ownBlock]), r⟩
theorem src_row {w : World} {base : Nat} {A : Option Addr} {m c : Nat} {l : List Ins} (h : InsRow w base (.slice A m c) l) : Src w 2 A m (encL insV l) ∧ l.length = m := by
  rcases h.2 with ⟨e, h0⟩ | ⟨g, cap, cur, e, hg, hh, r⟩
  · injection e with e1 e2 e3
    subst e1 e2 e3
    refine ⟨⟨by rw [encL_len insV_len, h0], fun _ => rfl, fun ad hx => by cases hx⟩, h0⟩
  · injection e with e1 e2 e3
    subst e1 e2 e3
    refine ⟨⟨encL_len insV_len l, (fun hx => by cases hx), ?_⟩, rfl⟩
    intro ad hx j u hu
    injection hx with hx
    subst hx
    have ea : (⟨g, 0, none⟩ : Addr).add j = ⟨g, j, none⟩ := by unfold Addr.add; split <;> simp_all
    have hj : j < l.length * 2 := by
      have := (List.getElem?_eq_some_iff.1 hu).1
      rwa [encL_len insV_len] at this
    rw [ea, World.ownsRow.cellAt h j hj]; exact hu
theorem insRow_new (w : World) {base g : Nat} (hg : w.heap.size = g) (hb : base ≤ g) (p q : Int) : InsRow (w.alloc (.cells #[.int .i64 p, .int .i64 q] 133)) base (.slice (some ⟨g, 0, none⟩) 1 1) [(p, q)] := by
  subst hg
  exact ⟨rfl, .inr ⟨_, 1, _, rfl, hb, heap_alloc_new w _, Nat.le_refl _, by unfold maxLen; omega, rfl, rfl⟩⟩
/-- The call returns a row of its own. -/
def RetIns (l : List Ins) (w : World) (e : Ending) (w' : World) : Prop := ∃ v, e = .returned v ∧ InsRow w' w.heap.size v l ∧ Below w.heap.size w w'
theorem InsRow.mono {w : World} {b b' : Nat} {v : Value} {l : List Ins} (h : InsRow w b v l) (hb : b' ≤ b) : InsRow w b' v l := World.ownsRow.mono h hb
theorem InsRow.eq {w : World} {b : Nat} {v : Value} {l l' : List Ins} (h : InsRow w b v l) (e : l = l') : InsRow w b v l' := e ▸ h
theorem cell_new4 (w : World) (u v u' v' : Value) (t : TypeId) {g : Nat} (hg : w.heap.size = g) : ∀ j x, [u, v, u', v'][j]? = some x → (w.alloc (.cells #[u, v, u', v'] t)).cell? ((⟨g, 0, none⟩ : Addr).add j) = some x := by
  intro j x h
  subst hg
  have hj : j < 4 := by
    have := (List.getElem?_eq_some_iff.1 h).1
    simpa using this
  have e : j = 0 ∨ j = 1 ∨ j = 2 ∨ j = 3 := by omega
  rcases e with rfl | rfl | rfl | rfl
  · simp at h; subst h
    rw [show (⟨w.heap.size, 0, none⟩ : Addr).add 0 = ⟨w.heap.size, 0, none⟩ from rfl, cell_of_row _ _ _ _ _ _ (heap_alloc_new w _)]; rfl
  · simp at h; subst h
    rw [show (⟨w.heap.size, 0, none⟩ : Addr).add 1 = ⟨w.heap.size, 1, none⟩ from rfl, cell_of_row _ _ _ _ _ _ (heap_alloc_new w _)]; rfl
  · simp at h; subst h
    rw [show (⟨w.heap.size, 0, none⟩ : Addr).add 2 = ⟨w.heap.size, 2, none⟩ from rfl, cell_of_row _ _ _ _ _ _ (heap_alloc_new w _)]; rfl
  · simp at h; subst h
    rw [show (⟨w.heap.size, 0, none⟩ : Addr).add 3 = ⟨w.heap.size, 3, none⟩ from rfl, cell_of_row _ _ _ _ _ _ (heap_alloc_new w _)]; rfl
/-- From world w1 on, of the row of the call's own (no block below B has turned). -/
structure SpcRun (w1 : World) (B : Nat) (wk : World) (vk : Value) (xk : List Ins) : Prop where
  row : InsRow wk B vk xk
  bl : Below B w1 wk
  sz : B ≤ wk.heap.size
section
variable {w w1 wk wm w' : World} {B : Nat} {vk v' : Value} {xk ys : List Ins}
theorem SpcRun.app (h : SpcRun w1 B wk vk xk) (hm : Below wk.heap.size wk wm) (hg : wm.grownBy w' vk.ownBlock) (hr : InsRow w' B v' ys) : SpcRun w1 B w' v' ys :=
  ⟨hr, (h.bl.trans (hm.mono h.sz)).grown hg (Nat.le_trans h.sz hm.size) (fun g hg => (h.row.lt g hg).1), Nat.le_trans h.sz (Nat.le_trans hm.size hg.size)⟩
theorem SpcRun.below (h : SpcRun w1 B wk vk xk) (hm : Below wk.heap.size wk w') : SpcRun w1 B w' vk xk := ⟨h.row.below hm, h.bl.trans (hm.mono h.sz), Nat.le_trans h.sz hm.size⟩
theorem SpcRun.cell {b o : Nat} {u : Value} (h : SpcRun w1 B wk vk xk) (hb : b < B) (hc : w1.cell? ⟨b, o, none⟩ = some u) : wk.cell? ⟨b, o, none⟩ = some u := (h.bl.cell (p := ⟨b, o, none⟩) hb).trans hc
theorem SpcRun.ret (h : SpcRun w1 B wk vk xk) (hw : Below w.heap.size w w1) (hB : w.heap.size ≤ B) : RetIns xk w (.returned vk) wk := ⟨vk, rfl, h.row.mono hB, hw.trans (h.bl.mono hB)⟩
theorem SpcRun.eq (h : SpcRun w1 B wk vk xk) (e : xk = ys) : SpcRun w1 B wk vk ys := e ▸ h
/-- Another row stands, when this one grows. -/
theorem row_stands {b2 : Nat} {v2 : Value} {T : List Ins} (h : InsRow wm b2 v2 T) (hg : wm.grownBy w' vk.ownBlock) (hn : ∀ g, vk.ownBlock = some g → g < b2) : InsRow w' b2 v2 T :=
  ownsRow_keep0 h fun k hk => by
    have := h.lt k hk
    exact hg.block k this.2 (fun e => by have := hn k e.symm; omega)
end
section
variable (w : World)
theorem wpl_appR {ops : Array Oper} {rest : List Oper} {o : Oper} {a : Act} {Q : Exit → Act → World → Prop} (hgd : o.guard = none) (s x : Operand)
    (ho : o.op = .call { callee := .builtin .append, args := #[s, x], argTypes := #[38, 38] })
    (base : Nat) (v : Value) (l : List Ins) (hs : a.eval s = v) (hown : InsRow w base v l) (b2 : Nat) (v2 : Value) (l2 : List Ins) (hx : a.eval x = v2)
    (hsl : InsRow w b2 v2 l2) (hl : l.length + l2.length ≤ 2199023255552) (hbase : base ≤ w.heap.size)
    (h : ∀ v' w', InsRow w' base v' (l ++ l2) → w.grownBy w' v.ownBlock → (v'.ownBlock = v.ownBlock ∨ v'.ownBlock = some w.heap.size) → wpList Try.prog ops Q rest (a.put o.dst v') w') :
    wpList Try.prog ops Q (o :: rest) a w := by
  obtain ⟨inf, hif, hz0, hz1, hz2⟩ := info_parts Try.infoIns2
  obtain ⟨A, m, c, rfl, hm⟩ := hsl.form
  have hs2 := src_row hsl
  refine wpList_append_src w hgd s x _ ho base 133 inf _ 2 16 Try.underlying38 hif hz0 hz1 hz2 rfl (by decide) v _ _ hs hown A m c _ hx hs2.1 (encL_one' insV_one) (by unfold maxLen; omega) (by omega) hbase ?_
  intro v' w' h1 h2 h3
  refine h v' w' ?_ h2 h3
  unfold InsRow
  rw [encL_append, List.length_append, hs2.2]; exact h1
end
end Go.Proofs.Ythdpkcmeepabjaa
