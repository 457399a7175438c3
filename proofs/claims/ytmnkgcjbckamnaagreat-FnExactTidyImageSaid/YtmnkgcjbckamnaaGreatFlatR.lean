/- A row of instructions as the source of an append; a literal; results that are such rows. Plain lemmas. -/
import Derived.Test.YtmnkgcjbckamnaaGreatFlatK
import Derived.Test.YtmnkgcjbckamnaaGreatKit1
import Derived.Deep.Onto
set_option linter.unusedVariables false
set_option linter.unusedSimpArgs false
namespace Go.Proofs.YtmnkgcjbckamnaaGreat
open Go.RowKit
theorem own_insRow {w : World} {base e : Nat} {F : List Nat} {v : Value} {l : List Ins} (h : OwnSl InsR w 119 F v l) (hF : ∀ k, k ∈ F → base ≤ k) : InsRow w base v l := by
  obtain ⟨csl, Fs, h1, h2, rfl, hn⟩ := h
  have e : csl.flatten = encL insV l := by
    clear h1 hF hn
    induction csl generalizing Fs l with
    | nil =>
      cases Fs <;> cases l <;> first | rfl | exact h2.elim
    | cons c csl ih =>
      cases Fs with
      | nil => cases l <;> exact h2.elim
      | cons f Fs =>
        cases l with
        | nil => exact h2.elim
        | cons x l =>
          obtain ⟨a, b, Fa, Fb, rfl, _, ⟨_, rfl, _⟩, ⟨_, rfl, _⟩, _⟩ := h2.1
          rw [List.flatten_cons, encL_cons, ih _ h2.2]; rfl
  rw [e] at h1
  refine ⟨h1.1, ?_⟩
  rcases h1.2 with h | ⟨g, cap, cur, a, _, r⟩
  · exact .inl h
  · exact .inr ⟨g, cap, cur, a, hF g (by rw [a]; simp [Value.ownBlock]), r⟩
theorem src_row {w : World} {base : Nat} {A : Option Addr} {m c : Nat} {l : List Ins} (h : InsRow w base (.slice A m c) l) : Src w 2 A m (encL insV l) ∧ l.length = m := by
  rcases h.2 with ⟨e, h0⟩ | ⟨g, cap, cur, e, hg, hh, r⟩
  · injection e with e1 e2 e3
    subst e1 e2 e3
    refine ⟨⟨by rw [encL_len insV_len, h0], fun _ => rfl, fun ad hx => by cases hx⟩, h0⟩
  · injection e with e1 e2 e3
    subst e1 e2 e3
    refine ⟨⟨encL_len insV_len l, (fun hx => by cases hx), ?_⟩, rfl⟩
    intro ad hx j u hu
    injection hx with hx
    subst hx
    have ea : (⟨g, 0, none⟩ : Addr).add j = ⟨g, j, none⟩ := by unfold Addr.add; split <;> simp_all
    have hj : j < l.length * 2 := by
      have := (List.getElem?_eq_some_iff.1 hu).1
      rwa [encL_len insV_len] at this
    rw [ea, World.ownsRow.cellAt h j hj]; exact hu
theorem insRow_new (w : World) {base g : Nat} (hg : w.heap.size = g) (hb : base ≤ g) (p q : Int) : InsRow (w.alloc (.cells #[.int .i64 p, .int .i64 q] 119)) base (.slice (some ⟨g, 0, none⟩) 1 1) [(p, q)] := by
  subst hg
  exact ⟨rfl, .inr ⟨_, 1, _, rfl, hb, heap_alloc_new w _, Nat.le_refl _, by unfold maxLen; omega, rfl, rfl⟩⟩
/-- The call returns a row of its own. -/
def RetIns (l : List Ins) (w : World) (e : Ending) (w' : World) : Prop := ∃ v, e = .returned v ∧ InsRow w' w.heap.size v l ∧ Below w.heap.size w w'
theorem InsRow.mono {w : World} {b b' : Nat} {v : Value} {l : List Ins} (h : InsRow w b v l) (hb : b' ≤ b) : InsRow w b' v l := World.ownsRow.mono h hb
theorem InsRow.eq {w : World} {b : Nat} {v : Value} {l l' : List Ins} (h : InsRow w b v l) (e : l = l') : InsRow w b v l' := e ▸ h
theorem cell_new4 (w : World) (u v u' v' : Value) (t : TypeId) {g : Nat} (hg : w.heap.size = g) : ∀ j x, [u, v, u', v'][j]? = some x → (w.alloc (.cells #[u, v, u', v'] t)).cell? ((⟨g, 0, none⟩ : Addr).add j) = some x := by
  intro j x h
  subst hg
  have hj : j < 4 := by
    have := (List.getElem?_eq_some_iff.1 h).1
    simpa using this
  have e : j = 0 ∨ j = 1 ∨ j = 2 ∨ j = 3 := by omega
  rcases e with rfl | rfl | rfl | rfl
  · simp at h; subst h
    rw [show (⟨w.heap.size, 0, none⟩ : Addr).add 0 = ⟨w.heap.size, 0, none⟩ from rfl, cell_of_row _ _ _ _ _ _ (heap_alloc_new w _)]; rfl
  · simp at h; subst h
    rw [show (⟨w.heap.size, 0, none⟩ : Addr).add 1 = ⟨w.heap.size, 1, none⟩ from rfl, cell_of_row _ _ _ _ _ _ (heap_alloc_new w _)]; rfl
  · simp at h; subst h
    rw [show (⟨w.heap.size, 0, none⟩ : Addr).add 2 = ⟨w.heap.size, 2, none⟩ from rfl, cell_of_row _ _ _ _ _ _ (heap_alloc_new w _)]; rfl
  · simp at h; subst h
    rw [show (⟨w.heap.size, 0, none⟩ : Addr).add 3 = ⟨w.heap.size, 3, none⟩ from rfl, cell_of_row _ _ _ _ _ _ (heap_alloc_new w _)]; rfl
/-- From world w1 on, of the row of the call's own (no block below B has turned). -/
structure SpcRun (w1 : World) (B : Nat) (wk : World) (vk : Value) (xk : List Ins) : Prop where
  row : InsRow wk B vk xk
  bl : Below B w1 wk
  sz : B ≤ wk.heap.size
section
variable {w w1 wk wm w' : World} {B : Nat} {vk v' : Value} {xk ys : List Ins}
theorem SpcRun.app (h : SpcRun w1 B wk vk xk) (hm : Below wk.heap.size wk wm) (hg : wm.grownBy w' vk.ownBlock) (hr : InsRow w' B v' ys) : SpcRun w1 B w' v' ys :=
  ⟨hr, (h.bl.trans (hm.mono h.sz)).grown hg (Nat.le_trans h.sz hm.size) (fun g hg => (h.row.lt g hg).1), Nat.le_trans h.sz (Nat.le_trans hm.size hg.size)⟩
theorem SpcRun.below (h : SpcRun w1 B wk vk xk) (hm : Below wk.heap.size wk w') : SpcRun w1 B w' vk xk := ⟨h.row.below hm, h.bl.trans (hm.mono h.sz), Nat.le_trans h.sz hm.size⟩
theorem SpcRun.cell {b o : Nat} {u : Value} (h : SpcRun w1 B wk vk xk) (hb : b < B) (hc : w1.cell? ⟨b, o, none⟩ = some u) : wk.cell? ⟨b, o, none⟩ = some u := (h.bl.cell (p := ⟨b, o, none⟩) hb).trans hc
theorem SpcRun.ret (h : SpcRun w1 B wk vk xk) (hw : Below w.heap.size w w1) (hB : w.heap.size ≤ B) : RetIns xk w (.returned vk) wk := ⟨vk, rfl, h.row.mono hB, hw.trans (h.bl.mono hB)⟩
theorem SpcRun.eq (h : SpcRun w1 B wk vk xk) (e : xk = ys) : SpcRun w1 B wk vk ys := e ▸ h
/-- Another row stands, when this one grows. -/
theorem row_stands {b2 : Nat} {v2 : Value} {T : List Ins} (h : InsRow wm b2 v2 T) (hg : wm.grownBy w' vk.ownBlock) (hn : ∀ g, vk.ownBlock = some g → g < b2) : InsRow w' b2 v2 T :=
  ownsRow_keep0 h fun k hk => by
    have := h.lt k hk
    exact hg.block k this.2 (fun e => by have := hn k e.symm; omega)
end
section
variable (w : World)
theorem wpl_appR {ops : Array Oper} {rest : List Oper} {o : Oper} {a : Act} {Q : Exit → Act → World → Prop} (hgd : o.guard = none) (s x : Operand)
    (ho : o.op = .call { callee := .builtin .append, args := #[s, x], argTypes := #[27, 27] })
    (base : Nat) (v : Value) (l : List Ins) (hs : a.eval s = v) (hown : InsRow w base v l) (b2 : Nat) (v2 : Value) (l2 : List Ins) (hx : a.eval x = v2)
    (hsl : InsRow w b2 v2 l2) (hl : l.length + l2.length ≤ 2199023255552) (hbase : base ≤ w.heap.size)
    (h : ∀ v' w', InsRow w' base v' (l ++ l2) → w.grownBy w' v.ownBlock → (v'.ownBlock = v.ownBlock ∨ v'.ownBlock = some w.heap.size) → wpList Tryz.prog ops Q rest (a.put o.dst v') w') :
    wpList Tryz.prog ops Q (o :: rest) a w := by
  obtain ⟨inf, hif, hz0, hz1, hz2⟩ := info_parts Tryz.infoIns2
  obtain ⟨A, m, c, rfl, hm⟩ := hsl.form
  have hs2 := src_row hsl
  refine wpList_append_src w hgd s x _ ho base 119 inf _ 2 16 Tryz.underlying27 hif hz0 hz1 hz2 rfl (by decide) v _ _ hs hown A m c _ hx hs2.1 (encL_one' insV_one) (by unfold maxLen; omega) (by omega) hbase ?_
  intro v' w' h1 h2 h3
  refine h v' w' ?_ h2 h3
  unfold InsRow
  rw [encL_append, List.length_append, hs2.2]; exact h1
end
end Go.Proofs.YtmnkgcjbckamnaaGreat
