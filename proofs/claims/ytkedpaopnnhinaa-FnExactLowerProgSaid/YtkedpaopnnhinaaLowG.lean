/- Several texts in one: LowSt, LowRun, LowB, LowC, LowK, LowM. -/
import Derived.Test.YtkedpaopnnhinaaLowA
import Derived.Test.YtkedpaopnnhinaaGood1
import Derived.RegionTactic
import Derived.Deep.RegionLaw
import Derived.Deep.DeepCutAuto
import Derived.Deep.RegionHeld3

/- The state of a function's translation: what it is, and one instruction more. -/
set_option linter.unusedVariables false
set_option linter.unusedSimpArgs false
set_option maxRecDepth 100000
namespace Go.Proofs.Ytkedpaopnnhinaa
open Go.RowKit
/-- Block L is a translation's state: the function, its sites, and the instructions so far, in a row of its own. -/
structure LowSt (w : World) (L : Nat) (c0 c1 c2 c3 c4 : Value) (v : Value) (xs : List Ins) : Prop where
  p0 : w.cell? ⟨L, 0, none⟩ = some c0
  p1 : w.cell? ⟨L, 1, none⟩ = some c1
  p2 : w.cell? ⟨L, 2, none⟩ = some c2
  p3 : w.cell? ⟨L, 3, none⟩ = some c3
  p4 : w.cell? ⟨L, 4, none⟩ = some c4
  p5 : w.cell? ⟨L, 5, none⟩ = some v
  fz : ∀ j, w.frozen? ⟨L, j, none⟩ = false
  row : InsRow w (L + 1) v xs
section
variable {w w' wm w2 : World} {L : Nat} {c0 c1 c2 c3 c4 v v' : Value} {xs ys : List Ins}
theorem LowSt.lt (h : LowSt w L c0 c1 c2 c3 c4 v xs) : L < w.heap.size := World.block_lt_of_cell? w _ h.p0
theorem LowSt.keep (h : LowSt w L c0 c1 c2 c3 c4 v xs) (hb : Below w.heap.size w w') : LowSt w' L c0 c1 c2 c3 c4 v xs :=
  ⟨below_cell hb h.p0, below_cell hb h.p1, below_cell hb h.p2, below_cell hb h.p3, below_cell hb h.p4, below_cell hb h.p5, fun j => (hb.frozen (p := ⟨L, j, none⟩) h.lt).trans (h.fz j), h.row.below hb⟩
theorem LowSt.ne (h : LowSt w L c0 c1 c2 c3 c4 v xs) : ¬ v.ownBlock = some L := fun e => by have := (h.row.lt L e).1; omega
theorem grown_block {w w' : World} {r : Option Nat} (hg : w.grownBy w' r) {b : Nat} (hb : b < w.heap.size) (hn : ¬ r = some b) : w'.heap[b]? = w.heap[b]? := hg.block b hb (fun e => hn e.symm)
theorem cell_same {w w' : World} {b o : Nat} {u : Value} (hk : w'.heap[b]? = w.heap[b]?) (h : w.cell? ⟨b, o, none⟩ = some u) : w'.cell? ⟨b, o, none⟩ = some u := (World.cell?_of_block (w := w) (a := ⟨b, o, none⟩) hk).trans h
/-- Behind an append onto its row: the state as it was, but for the row. -/
theorem LowSt.mid (h : LowSt w L c0 c1 c2 c3 c4 v xs) (hm : Below w.heap.size w wm) (hg : wm.grownBy w2 v.ownBlock) :
    (w2.cell? ⟨L, 0, none⟩ = some c0 ∧ w2.cell? ⟨L, 1, none⟩ = some c1 ∧ w2.cell? ⟨L, 2, none⟩ = some c2 ∧ w2.cell? ⟨L, 3, none⟩ = some c3 ∧ w2.cell? ⟨L, 4, none⟩ = some c4 ∧ w2.cell? ⟨L, 5, none⟩ = some v) ∧ ∀ j, w2.frozen? ⟨L, j, none⟩ = false := by
  have hk := grown_block hg (b := L) (Nat.lt_of_lt_of_le h.lt hm.size) h.ne
  have h' := h.keep hm
  exact ⟨⟨cell_same hk h'.p0, cell_same hk h'.p1, cell_same hk h'.p2, cell_same hk h'.p3, cell_same hk h'.p4, cell_same hk h'.p5⟩, fun j => (World.frozen?_of_block (w := wm) (a := ⟨L, j, none⟩) hk).trans (h'.fz j)⟩
theorem LowSt.lt_own (h : LowSt w L c0 c1 c2 c3 c4 v xs) : ∀ g, v.ownBlock = some g → L < g ∧ g < w.heap.size := fun g hg => by have := h.row.lt g hg; omega
theorem LowSt.put (h : LowSt w L c0 c1 c2 c3 c4 v xs) (hm : Below w.heap.size w wm) (hg : wm.grownBy w2 v.ownBlock) (hr : InsRow w2 (L + 1) v' ys) :
    LowSt (w2.setCell ⟨L, 5, none⟩ v') L c0 c1 c2 c3 c4 v' ys ∧ Fr (L :: v.ownBlock.toList) w (w2.setCell ⟨L, 5, none⟩ v') := by
  obtain ⟨⟨q0, q1, q2, q3, q4, q5⟩, qf⟩ := h.mid hm hg
  have hn : ∀ g, v'.ownBlock = some g → ¬ g = L := fun g hg e => by have := (hr.lt g hg).1; omega
  refine ⟨⟨by simp [go_sem, q0], by simp [go_sem, q1], by simp [go_sem, q2], by simp [go_sem, q3], by simp [go_sem, q4], by simp [go_sem, q5], fun j => by simp [go_sem, qf], ?_⟩, ?_⟩
  · exact ownsRow_keep0 hr fun k hk => Below.heap_setCell _ _ _ _ (hn k hk)
  · exact Fr.setCell (Fr.trans (Fr.of_below hm) ((fr_grown hg).more (fun k hk => List.mem_cons_of_mem _ hk))) (by simp) v'
end
/-- The call has appended instructions. -/
def RetLow (L : Nat) (c0 c1 c2 c3 c4 v : Value) (ys : List Ins) (r : Value) (w : World) (e : Ending) (w' : World) : Prop :=
  ∃ v', e = .returned r ∧ LowSt w' L c0 c1 c2 c3 c4 v' ys ∧ Fr (L :: v.ownBlock.toList) w w' ∧ (v'.ownBlock = v.ownBlock ∨ ∀ g, v'.ownBlock = some g → w.heap.size ≤ g)
theorem low_trans {a b c : World} {L : Nat} {v v1 : Value} (h : Fr (L :: v.ownBlock.toList) a b) (ho : v1.ownBlock = v.ownBlock ∨ ∀ g, v1.ownBlock = some g → a.heap.size ≤ g) (k : Fr (L :: v1.ownBlock.toList) b c) : Fr (L :: v.ownBlock.toList) a c := by
  refine ⟨k.os.trans h.os, k.tape.trans h.tape, k.output.trans h.output, Nat.le_trans h.size k.size, fun i hi hn => ?_⟩
  simp only [List.mem_cons, not_or] at hn
  rw [k.block i (Nat.lt_of_lt_of_le hi h.size) ?_, h.block i hi (by simpa using hn)]
  intro hx
  rcases List.mem_cons.1 hx with rfl | hx
  · exact hn.1 rfl
  · rcases ho with ho | ho
    · rw [ho] at hx; exact hn.2 hx
    · have := ho i (by simpa using hx); omega
set_option maxHeartbeats 2000000 in
theorem implAdd (w : World) (L : Nat) (c0 c1 c2 c3 c4 v : Value) (xs : List Ins) (op k : Int) (h : LowSt w L c0 c1 c2 c3 c4 v xs) (hl : xs.length ≤ 1099511627776) :
    Calls Try.prog 211 #[.pointer (some ⟨L, 0, none⟩), .int .i64 op, .int .i64 k] w (RetLow L c0 c1 c2 c3 c4 v (xs ++ [(op, k)]) (.int .i64 xs.length) w) := by
  have p5 := h.p5
  have hL := h.lt
  have hrow := h.row
  go_enter Try.func211, Try.ntmps211
  go_wp2_with (at_builtin; refine wpl_app1 _ rfl _ _ rfl (L + 1) v xs rfl (hrow.below (show Below w.heap.size w _ by (repeat (first | with_reducible exact Below.refl _ _ | with_reducible assumption | with_reducible refine below_alloc ?_ _ | ((with_reducible refine Below.setCell ?_ ?_ _); rotate_left; (· first | exact Nat.le_refl _ | (simp; done) | (simp; omega))) | with_reducible refine below_drewN ?_ _ | with_reducible refine Below.drew ?_ | with_reducible refine below_then ?_ (by with_reducible assumption))))) ⟨w.heap.size, 0, none⟩ 1 op k rfl (cell_new2 _ _ _ _ (by simp)) hl (by simp; omega) ?_)
  intro v' w2 hown hgr hat
  have hm : Below w.heap.size w (w.alloc (.cells #[.int .i64 op, .int .i64 k] 190)) := by (repeat (first | with_reducible exact Below.refl _ _ | with_reducible assumption | with_reducible refine below_alloc ?_ _ | ((with_reducible refine Below.setCell ?_ ?_ _); rotate_left; (· first | exact Nat.le_refl _ | (simp; done) | (simp; omega))) | with_reducible refine below_drewN ?_ _ | with_reducible refine Below.drew ?_ | with_reducible refine below_then ?_ (by with_reducible assumption)))
  obtain ⟨⟨q0, q1, q2, q3, q4, q5⟩, qf⟩ := h.mid hm hgr
  have qf5 := qf 5
  have hput := h.put hm hgr hown
  clear q0 q1 q2 q3 q4 qf
  obtain ⟨A', n', c', rfl, hn'⟩ := hown.form
  have hn1 : n' = xs.length + 1 := by rw [hn']; simp
  have hle : n' ≤ 1099511627777 := by omega
  have HN := Lib.hid hn1
  clear hn1 hn'
  go_wp2_with fail
  go_ret
  refine ⟨_, ret_int (by have := HN.out; omega), hput.1, hput.2, ?_⟩
  rcases hat with hat | hat
  · exact Or.inl hat
  · exact Or.inr fun g hg => by rw [hat] at hg; injection hg with hg; first | omega | (simp at hg; omega)
end Go.Proofs.Ytkedpaopnnhinaa

/- The run of a translation: what carries over from step to step. Plain lemmas. -/
set_option linter.unusedVariables false
set_option linter.unusedSimpArgs false
set_option maxRecDepth 100000
namespace Go.Proofs.Ytkedpaopnnhinaa
open Go.RowKit
/-- From world w on, where the row was v: the state is now so. -/
structure LowRun (w : World) (L : Nat) (c0 c1 c2 c3 c4 v : Value) (wk : World) (vk : Value) (xk : List Ins) : Prop where
  st : LowSt wk L c0 c1 c2 c3 c4 vk xk
  fr : Fr (L :: v.ownBlock.toList) w wk
  own : vk.ownBlock = v.ownBlock ∨ ∀ g, vk.ownBlock = some g → w.heap.size ≤ g
section
variable {w wk : World} {L : Nat} {c0 c1 c2 c3 c4 v vk : Value} {xk ys : List Ins}
theorem LowRun.start (h : LowSt w L c0 c1 c2 c3 c4 v xk) : LowRun w L c0 c1 c2 c3 c4 v w v xk := ⟨h, Fr.refl _ _, Or.inl rfl⟩
theorem LowRun.step {e : Ending} {r : Value} {w' : World} (h : LowRun w L c0 c1 c2 c3 c4 v wk vk xk) (k : RetLow L c0 c1 c2 c3 c4 vk ys r wk e w') : ∃ vn, e = .returned r ∧ LowRun w L c0 c1 c2 c3 c4 v w' vn ys := by
  obtain ⟨vn, rfl, st, fr, own⟩ := k
  exact ⟨vn, rfl, st, low_trans h.fr h.own fr, own_trans h.fr.size h.own own⟩
theorem LowRun.cell {B o : Nat} {u : Value} (h : LowRun w L c0 c1 c2 c3 c4 v wk vk xk) (hL : ¬ B = L) (hv : ¬ v.ownBlock = some B) (hc : w.cell? ⟨B, o, none⟩ = some u) : wk.cell? ⟨B, o, none⟩ = some u :=
  cell_fr h.fr (by simp only [List.mem_cons, not_or]; exact ⟨hL, by simpa using hv⟩) hc
theorem LowRun.sl {α : Type} {R : Rp α} {A : Option Addr} {n c : Nat} {l : List α} (h : LowRun w L c0 c1 c2 c3 c4 v wk vk xk) (hL : L ≤ w.heap.size) (hv : ∀ g, v.ownBlock = some g → L < g) (hs : Sl R w 0 L A n c l) : Sl R wk 0 L A n c l :=
  hs.fr h.fr hL fun k hk => by
    rcases List.mem_cons.1 hk with rfl | hk
    · exact Or.inr (Nat.le_refl _)
    · exact Or.inr (Nat.le_of_lt (hv k (by simpa using hk)))
theorem LowRun.below {w' : World} (h : LowRun w L c0 c1 c2 c3 c4 v wk vk xk) (hb : Below wk.heap.size wk w') : LowRun w L c0 c1 c2 c3 c4 v w' vk xk := ⟨h.st.keep hb, h.fr.trans (Fr.of_below hb), h.own⟩
theorem LowRun.drew (h : LowRun w L c0 c1 c2 c3 c4 v wk vk xk) : LowRun w L c0 c1 c2 c3 c4 v wk.drew vk xk := h.below (Below.drew (Below.refl _ _))
theorem LowRun.ret {r : Value} (h : LowRun w L c0 c1 c2 c3 c4 v wk vk xk) : RetLow L c0 c1 c2 c3 c4 v xk r w (.returned r) wk := ⟨vk, rfl, h.st, h.fr, h.own⟩
theorem LowRun.eq {ys : List Ins} (h : LowRun w L c0 c1 c2 c3 c4 v wk vk xk) (e : xk = ys) : LowRun w L c0 c1 c2 c3 c4 v wk vk ys := e ▸ h
/-- A call whose state was laid into a new block first. -/
theorem RetLow.up {w0 : World} {r : Value} {e : Ending} {o : Obj} (h : RetLow L c0 c1 c2 c3 c4 v ys r (w0.alloc o) e wk) : RetLow L c0 c1 c2 c3 c4 v ys r w0 e wk := by
  obtain ⟨vn, rfl, st, fr, own⟩ := h
  exact ⟨vn, rfl, st, Fr.trans (Fr.alloc (Fr.refl _ _) _) fr, own_later (by simp) own⟩
/-- The number of an instruction, to be put anew. -/
theorem LowRun.at_ {A : Option Addr} {n c : Nat} {a b : List Ins} {op q : Int} {i : Nat} (h : LowRun w L c0 c1 c2 c3 c4 v wk (.slice A n c) (a ++ ([(op, q)] ++ b))) (hi : a.length = i) :
    ∃ g, A = some ⟨g, 0, none⟩ ∧ n = i + 1 + b.length ∧ wk.cell? ⟨g, i * 2 + 1, none⟩ = some (.int .i64 q) ∧ wk.frozen? ⟨g, i * 2 + 1, none⟩ = false ∧ wk.cell? ⟨L, 5, none⟩ = some (.slice (some ⟨g, 0, none⟩) n c) ∧
      ∀ m, LowRun w L c0 c1 c2 c3 c4 v (wk.setCell ⟨g, i * 2 + 1, none⟩ (.int .i64 m)) (.slice A n c) (a ++ ([(op, m)] ++ b)) := by
  have hrow := h.st.row
  unfold InsRow at hrow
  have hlen : (a ++ ([(op, q)] ++ b)).length = i + 1 + b.length := by simp; omega
  have hil : i < (a ++ ([(op, q)] ++ b)).length := by omega
  rcases hrow.2 with ⟨e, h0⟩ | ⟨g, cap, cur, e, hg, hh, r⟩
  · omega
  injection e with e1 e2 e3
  subst e1 e2 e3
  have hat := hrow.cellAt (i * 2 + 1) (by omega)
  have hv : (encL insV (a ++ ([(op, q)] ++ b)))[i * 2 + 1]? = some (.int .i64 q) := by
    rw [encL_at insV_len _ i hil 1 (by decide)]
    have : (a ++ ([(op, q)] ++ b))[i] = (op, q) := by subst hi; simp
    rw [this]; rfl
  have hgl := h.st.row.lt g rfl
  refine ⟨g, rfl, hlen, hat.trans hv, hrow.frozenAt _, h.st.p5, fun m => ?_⟩
  have hnew := ins_patch hrow hil m
  have hset : (a ++ ([(op, q)] ++ b)).set i ((a ++ ([(op, q)] ++ b))[i].1, m) = a ++ ([(op, m)] ++ b) := by
    have : (a ++ ([(op, q)] ++ b))[i] = (op, q) := by subst hi; simp
    rw [this]; exact set_mid a b _ _ hi.symm
  rw [hset] at hnew
  have hl2 : (a ++ ([(op, m)] ++ b)).length = (a ++ ([(op, q)] ++ b)).length := by simp
  have hne : ¬ L = g := by omega
  have hk : (wk.setCell ⟨g, i * 2 + 1, none⟩ (.int .i64 m)).heap[L]? = wk.heap[L]? := Below.heap_setCell _ _ _ _ hne
  refine ⟨⟨cell_same hk h.st.p0, cell_same hk h.st.p1, cell_same hk h.st.p2, cell_same hk h.st.p3, cell_same hk h.st.p4, cell_same hk h.st.p5, fun j => by simpa using h.st.fz j, ?_⟩, ?_, h.own⟩
  · unfold InsRow; rw [hl2]; exact hnew
  · refine ⟨?_, ?_, ?_, ?_, ?_⟩
    · exact (show (wk.setCell ⟨g, i * 2 + 1, none⟩ (.int .i64 m)).os = wk.os from rfl).trans h.fr.os
    · exact (show (wk.setCell ⟨g, i * 2 + 1, none⟩ (.int .i64 m)).tape = wk.tape from rfl).trans h.fr.tape
    · exact (show (wk.setCell ⟨g, i * 2 + 1, none⟩ (.int .i64 m)).output = wk.output from rfl).trans h.fr.output
    · have := h.fr.size; simpa using this
    · intro k hk1 hk2
      have hkg : ¬ k = g := by
        rintro rfl
        rcases h.own with ho | ho
        · exact hk2 (List.mem_cons_of_mem _ (by rw [← ho]; simp [Value.ownBlock]))
        · have := ho k rfl; omega
      rw [Below.heap_setCell _ _ _ _ hkg]
      exact h.fr.block k hk1 hk2
end
end Go.Proofs.Ytkedpaopnnhinaa

/- The code of a statement, of a block: the program's walk. -/
set_option linter.unusedVariables false
set_option linter.unusedSimpArgs false
set_option maxRecDepth 100000
namespace Go.Proofs.Ytkedpaopnnhinaa
open Go.RowKit
theorem implAddAt (w : World) (L : Nat) (c0 c1 c2 c3 c4 v : Value) (xs : List Ins) (op k : Int) (i : Nat) (h : LowSt w L c0 c1 c2 c3 c4 v xs) (hi : xs.length = i) (hl : i ≤ 1099511627776) :
    Calls Try.prog 211 #[.pointer (some ⟨L, 0, none⟩), .int .i64 op, .int .i64 k] w (RetLow L c0 c1 c2 c3 c4 v (xs ++ [(op, k)]) (.int .i64 i) w) := by
  subst hi; exact implAdd w L c0 c1 c2 c3 c4 v xs op k h hl
/-- What a block's call does (with so much fuel). -/
def LowBlk (f : Nat) : Prop := ∀ (w : World) (L : Nat) (c0 c1 c2 : Value) (A : Option Addr) (n c : Nat) (ss : List Stmt) (As : Option Addr) (ns cs : Nat) (Ab : Option Addr) (nb cb : Nat) (bl : List Int) (v : Value) (xs : List Ins) (lb a : Nat),
  Sl StmtR w 0 L A n c ss → Sl intR w 0 L As ns cs (sitesF ss) → Sl intR w 0 L Ab nb cb bl → LowSt w L c0 c1 c2 (.slice A n c) (.slice As ns cs) v xs → okAll ss → lowOk ss → okB ss lb bl → ss.length ≤ lb + f → ss.length ≤ 1048576 → xs.length = a → a + (codeB ss (f + 1) a bl).length ≤ 1073741824 →
  Calls Try.prog 210 #[.pointer (some ⟨L, 0, none⟩), .slice Ab nb cb] w (RetLow L c0 c1 c2 (.slice A n c) (.slice As ns cs) v (xs ++ codeB ss (f + 1) a bl) (.tuple #[]) w)
set_option maxHeartbeats 4000000 in
theorem implStmtC (f : Nat) (IH0 : LowBlk f) (w : World) (L : Nat) (c0 c1 c2 : Value) (A : Option Addr) (n c : Nat) (ss : List Stmt) (As : Option Addr) (ns cs : Nat) (v : Value) (xs : List Ins) (j a : Nat)
    (h : Sl StmtR w 0 L A n c ss) (hs : Sl intR w 0 L As ns cs (sitesF ss)) (hst : LowSt w L c0 c1 c2 (.slice A n c) (.slice As ns cs) v xs) (ha : okAll ss) (hlo : lowOk ss) (hj : j < n) (hf : ss.length ≤ j + 1 + f) (hn : n ≤ 1048576) (hx : xs.length = a) (hl : a + (stmtC ss (codeB ss (f + 1)) (j : Int) a).length ≤ 1073741824) :
    Calls Try.prog 255 #[.pointer (some ⟨L, 0, none⟩), .int .i64 j] w (RetLow L c0 c1 c2 (.slice A n c) (.slice As ns cs) v (xs ++ stmtC ss (codeB ss (f + 1)) (j : Int) a) (.tuple #[]) w) := by
  have e1 := h.lenEq
  have IH := Lib.hid IH0
  have hLw := hst.lt
  obtain ⟨A0, m0, q0, rfl, hm0⟩ := hst.row.form
  obtain rfl : m0 = a := by omega
  have HX := Lib.hid hx
  have hvL := Lib.hid hst.lt_own
  obtain ⟨b, o, y0, y1, A2, n2, c2', ex, A3, n3, c3', s3, A4, n4, c4', s4, rfl, hb1, hb2, hl0, i0, i1, h2, h3, h4, d0, d1, d2, d3, d4⟩ := Stmt_at h hj
  have hE := exOf_at (ss := ss) (k := j) (by omega)
  rw [hl0] at hE
  obtain ⟨E1, E2, E3, E4, E5⟩ := hE
  have hS := hlo _ (List.getElem_mem (by omega : j < ss.length))
  rw [hl0] at hS
  obtain ⟨⟨k1, k9⟩, hex0, hexl, hny, htk⟩ := hS
  have a12 := ha j (by omega)
  rw [E4, E5] at a12
  have HA := Lib.hid ha
  have HLO := Lib.hid hlo
  have HT : Hid (okB ss (j + 1) s3) := Lib.hid a12.1
  have HEl : Hid (okB ss (j + 1) s4) := Lib.hid a12.2
  have HTK : Hid (lowT ex) := Lib.hid htk
  have HX0 : Hid (y0 = 3 ∨ y0 = 6 → ex = []) := Lib.hid hex0
  have HE1 := Lib.hid E1
  have HE2 := Lib.hid E2
  have HE3 := Lib.hid E3
  have HE4 := Lib.hid E4
  have HE5 := Lib.hid E5
  have HSL := Lib.hid hs.lenEq
  have HZL := Lib.hid (show (xs ++ stmtC ss (codeB ss (f + 1)) (j : Int) m0).length ≤ 1073741824 by rw [List.length_append]; omega)
  generalize hzs : xs ++ stmtC ss (codeB ss (f + 1)) (j : Int) m0 = zs at HZL ⊢
  have HL := Lib.hid hl
  have HZ0 := Lib.hid hzs
  simp only at hny hexl
  clear a12 ha hlo htk hl0 E1 E2 E3 E4 E5 IH0 hzs hl hex0 hm0 hx
  have p3 := hst.p3
  have p5 := hst.p5
  have lex := h2.lenEq
  have hn2 : n2 ≤ 12 := by omega
  have hm30 : m0 ≤ 1073741824 := by have := HL.out; omega
  go_enter Try.func255, Try.ntmps255
  go_wp2_with fail
  obtain ⟨w1, hw1⟩ : ∃ w1, w1 = w.alloc (.cells #[.int .i64 y0, .int .i64 y1, .slice A2 n2 c2', .slice A3 n3 c3', .slice A4 n4 c4'] 181) := ⟨_, rfl⟩
  have x0 : w1.cell? ⟨w.heap.size, 0, none⟩ = some (.int .i64 y0) := by rw [hw1]; simp [go_sem]
  have x1 : w1.cell? ⟨w.heap.size, 1, none⟩ = some (.int .i64 y1) := by rw [hw1]; simp [go_sem]
  have x2 : w1.cell? ⟨w.heap.size, 2, none⟩ = some (.slice A2 n2 c2') := by rw [hw1]; simp [go_sem]
  have x3 : w1.cell? ⟨w.heap.size, 3, none⟩ = some (.slice A3 n3 c3') := by rw [hw1]; simp [go_sem]
  have x4 : w1.cell? ⟨w.heap.size, 4, none⟩ = some (.slice A4 n4 c4') := by rw [hw1]; simp [go_sem]
  have hb1 : Below w.heap.size w w1 := by rw [hw1]; (repeat (first | with_reducible exact Below.refl _ _ | with_reducible assumption | with_reducible refine below_alloc ?_ _ | ((with_reducible refine Below.setCell ?_ ?_ _); rotate_left; (· first | exact Nat.le_refl _ | (simp; done) | (simp; omega))) | with_reducible refine below_drewN ?_ _ | with_reducible refine Below.drew ?_ | with_reducible refine below_then ?_ (by with_reducible assumption)))
  have hB : w.heap.size < w1.heap.size := World.block_lt_of_cell? w1 _ x0
  have hst1 := hst.keep hb1
  have hs1 := hs.below hb1 (Nat.le_of_lt hLw)
  have h21 := h2.below hb1 (Nat.le_of_lt hLw)
  have h31 := h3.below hb1 (Nat.le_of_lt hLw)
  have h41 := h4.below hb1 (Nat.le_of_lt hLw)
  have h1 := h.below hb1 (Nat.le_of_lt hLw)
  have hL1 : L < w1.heap.size := hst1.lt
  have hnb : ¬ (Value.slice A0 m0 q0).ownBlock = some w.heap.size := fun e => by have := (hvL.out _ e).2; omega
  have hnL : ¬ w.heap.size = L := by omega
  have x5 := hst1.p5
  have xf := hst1.fz 5
  have hrow := hst1.row
  have hxl : xs.length ≤ 1073741824 := by have := HX.out; omega
  clear p3 p5 d0 d1 d2 d3 d4 lex
  rw [← hw1]
  have HW := Lib.hid hw1
  clear hw1
  go_cut [] from 22 to 33 (fun wx => ∃ vk, LowRun w1 L c0 c1 c2 (.slice (some ⟨b, o, none⟩) n c) (.slice As ns cs) (.slice A0 m0 q0) wx vk (xs ++ ex.map tokIns))
  case first =>
    go_region_law (first | ((refine step_appS _ (by rfl) _ _ (by rfl) (L + 1) (.slice A0 m0 q0) xs (by rfl) (hrow.below hx2) Ar nr cr (ex.map tokIns) (by rfl) or2.sl (by rw [List.length_map] at nr2; omega) (by omega) ?_); intro v3 w3 hown hgr hat; obtain ⟨A5, m5, q5, rfl, hm5⟩ := hown.form; have HM5 := Lib.hid hm5; clear hm5; have zz := hst1.mid hx2 hgr; have z5 := zz.1.2.2.2.2.2; have zf := zz.2 5) | (go_simp; go_at_call 291; ((with_reducible refine (implLowerExpr _ 0 L A2 n2 c2' ex (h21.below (show Below w1.heap.size w1 _ by (repeat (first | with_reducible exact Below.refl _ _ | with_reducible assumption | with_reducible refine below_alloc ?_ _ | ((with_reducible refine Below.setCell ?_ ?_ _); rotate_left; (· first | exact Nat.le_refl _ | (simp; done) | (simp; omega))) | with_reducible refine below_drewN ?_ _ | with_reducible refine Below.drew ?_ | with_reducible refine below_then ?_ (by with_reducible assumption)))) (Nat.le_of_lt hL1)) (by first | omega | (simp; omega)) (by omega) HTK.out).mono ?_); rintro e w2 ⟨F2, Ar, nr, cr, rfl, or2, fr2, hx⟩; have hx2 : Below w1.heap.size w1 w2 := (by (repeat (first | with_reducible exact Below.refl _ _ | with_reducible assumption | with_reducible refine below_alloc ?_ _ | ((with_reducible refine Below.setCell ?_ ?_ _); rotate_left; (· first | exact Nat.le_refl _ | (simp; done) | (simp; omega))) | with_reducible refine below_drewN ?_ _ | with_reducible refine Below.drew ?_ | with_reducible refine below_then ?_ (by with_reducible assumption)))); have nr2 := or2.sl.lenEq; have y5 := below_cell hx2 x5; have y2 := below_cell hx2 x2; have hz2 := hx2.size)))
    all_goals
      go_wp2_with fail
      go_meet
      case rel =>
        have hput := hst1.put hx2 hgr hown
        exact ⟨_, hput.1, hput.2, hat.imp id (fun e g hg => by rw [e] at hg; injection hg with hg; omega)⟩
  case rest =>
  obtain ⟨vk, hR⟩ := hcut
  have hvL2 : ∀ g, (Value.slice A0 m0 q0).ownBlock = some g → L < g := fun g hg => (hvL.out g hg).1
  have Hi1 := Lib.hid (show (xs ++ ex.map tokIns).length = m0 + ex.length by rw [List.length_append, List.length_map, HX.out])
  have hi1l : m0 + ex.length ≤ 1073741836 := by omega
  obtain ⟨i1, hi10⟩ : ∃ i : Nat, m0 + ex.length = i := ⟨_, rfl⟩
  rw [hi10] at Hi1 hi1l
  clear hi10 x5 xf hrow hb1 h2 h3 h4 h hst hs
  have hk : y0 = 1 ∨ y0 = 2 ∨ y0 = 3 ∨ y0 = 4 ∨ y0 = 5 ∨ y0 = 6 ∨ y0 = 7 ∨ y0 = 8 ∨ y0 = 9 := by omega
  rcases hk with rfl | rfl | rfl | rfl | rfl | rfl | rfl | rfl | rfl
  · have u0wc := hR.cell hnL hnb x0
    have u1wc := hR.cell hnL hnb x1
    have HZ := Lib.hid (show xs ++ (ex.map tokIns ++ [(3, y1)]) = zs by rw [← HZ0.out, stmtC_1 HE2.out HE1.out HE3.out])
    go_wp2_with fail
    refine (implAddAt _ L _ _ _ _ _ vk (xs ++ ex.map tokIns) 3 y1 i1 hR.st Hi1.out (by omega)).mono ?_
    rintro e w6 hr
    obtain ⟨v6, rfl, hR6⟩ := hR.step hr
    clear hr hR
    go_wp2_with fail
    refine bodyPost_ret (v := .tuple #[]) (by simp [results, Try.results255, go_sem]) rfl ?_
    have hfin := (hR6.eq (ys := zs) (by rw [List.append_assoc]; exact HZ.out)).ret (r := .tuple #[])
    rw [HW.out] at hfin
    exact hfin.up
  · have u0wc := hR.cell hnL hnb x0
    have HZ := Lib.hid (show xs ++ (ex.map tokIns ++ [(8, 0)]) = zs by rw [← HZ0.out, stmtC_2 HE2.out HE1.out])
    go_wp2_with fail
    refine (implAddAt _ L _ _ _ _ _ vk (xs ++ ex.map tokIns) 8 0 i1 hR.st Hi1.out (by omega)).mono ?_
    rintro e w6 hr
    obtain ⟨v6, rfl, hR6⟩ := hR.step hr
    clear hr hR
    go_wp2_with fail
    refine bodyPost_ret (v := .tuple #[]) (by simp [results, Try.results255, go_sem]) rfl ?_
    have hfin := (hR6.eq (ys := zs) (by rw [List.append_assoc]; exact HZ.out)).ret (r := .tuple #[])
    rw [HW.out] at hfin
    exact hfin.up
  · have u0wc := hR.cell hnL hnb x0
    obtain rfl := HX0.out (by omega)
    have HZ := Lib.hid (show xs ++ [(12, idxI (sitesF ss) (j : Int))] = zs by rw [← HZ0.out, stmtC_3 HE2.out])
    have u5 := hR.st.p4
    go_wp2_with fail
    refine (slicesIndexInt _ 0 L As ns cs (sitesF ss) (j : Int) (hR.sl (Nat.le_of_lt hL1) hvL2 hs1) (Nat.le_of_lt hR.st.lt) (by have := HSL.out; have := sitesF_len ss; omega)).mono ?_
    rintro e w5 ⟨rfl, hb5⟩
    generalize idxI (sitesF ss) (j : Int) = q at HZ
    have hR0 := hR.below hb5
    clear hR u5
    go_wp2_with fail
    refine (implAddAt _ L _ _ _ _ _ vk (xs ++ List.map tokIns []) 12 q i1 hR0.st Hi1.out (by omega)).mono ?_
    rintro e w6 hr
    obtain ⟨v6, rfl, hR6⟩ := hR0.step hr
    clear hr hR0
    go_wp2_with fail
    refine bodyPost_ret (v := .tuple #[]) (by simp [results, Try.results255, go_sem]) rfl ?_
    have hfin := (hR6.eq (ys := zs) (by rw [List.map_nil, List.append_nil]; exact HZ.out)).ret (r := .tuple #[])
    rw [HW.out] at hfin
    exact hfin.up
  · have u0wc := hR.cell hnL hnb x0
    have HZ := Lib.hid (show xs ++ (ex.map tokIns ++ [(13, 0)]) = zs by rw [← HZ0.out, stmtC_4 HE2.out HE1.out])
    go_wp2_with fail
    refine (implAddAt _ L _ _ _ _ _ vk (xs ++ ex.map tokIns) 13 0 i1 hR.st Hi1.out (by omega)).mono ?_
    rintro e w6 hr
    obtain ⟨v6, rfl, hR6⟩ := hR.step hr
    clear hr hR
    go_wp2_with fail
    refine bodyPost_ret (v := .tuple #[]) (by simp [results, Try.results255, go_sem]) rfl ?_
    have hfin := (hR6.eq (ys := zs) (by rw [List.append_assoc]; exact HZ.out)).ret (r := .tuple #[])
    rw [HW.out] at hfin
    exact hfin.up
  · have u0wc := hR.cell hnL hnb x0
    have HZ := Lib.hid (show xs ++ (ex.map tokIns ++ [(15, 0), (16, 0)]) = zs by rw [← HZ0.out, stmtC_5 HE2.out HE1.out])
    go_wp2_with fail
    refine (implAddAt _ L _ _ _ _ _ vk (xs ++ ex.map tokIns) 15 0 i1 hR.st Hi1.out (by omega)).mono ?_
    rintro e w6 hr
    obtain ⟨v6, rfl, hR6⟩ := hR.step hr
    clear hr hR
    have Hi2 := Lib.hid (show (xs ++ ex.map tokIns ++ [((15 : Int), (0 : Int))]).length = i1 + 1 by rw [List.length_append, Hi1.out]; rfl)
    obtain ⟨i2, hi2⟩ : ∃ i : Nat, i1 + 1 = i := ⟨_, rfl⟩
    have hi2l : i2 ≤ 1073741840 := by omega
    rw [hi2] at Hi2
    clear hi2
    go_wp2_with fail
    refine (implAddAt _ L _ _ _ _ _ v6 ((xs ++ ex.map tokIns) ++ [(15, 0)]) 16 0 i2 hR6.st Hi2.out (by omega)).mono ?_
    rintro e w7 hr
    obtain ⟨v7, rfl, hR7⟩ := hR6.step hr
    clear hr hR6
    go_wp2_with fail
    refine bodyPost_ret (v := .tuple #[]) (by simp [results, Try.results255, go_sem]) rfl ?_
    have hfin := (hR7.eq (ys := zs) (by rw [List.append_assoc, List.append_assoc]; exact HZ.out)).ret (r := .tuple #[])
    rw [HW.out] at hfin
    exact hfin.up
  · have u0wc := hR.cell hnL hnb x0
    obtain rfl := HX0.out (by omega)
    have HZ := Lib.hid (show xs ++ [(14, 0)] = zs by rw [← HZ0.out, stmtC_6 HE2.out])
    go_wp2_with fail
    refine (implAddAt _ L _ _ _ _ _ vk (xs ++ List.map tokIns []) 14 0 i1 hR.st Hi1.out (by omega)).mono ?_
    rintro e w6 hr
    obtain ⟨v6, rfl, hR6⟩ := hR.step hr
    clear hr hR
    go_wp2_with fail
    refine bodyPost_ret (v := .tuple #[]) (by simp [results, Try.results255, go_sem]) rfl ?_
    have hfin := (hR6.eq (ys := zs) (by rw [List.map_nil, List.append_nil]; exact HZ.out)).ret (r := .tuple #[])
    rw [HW.out] at hfin
    exact hfin.up
  · have u0wc := hR.cell hnL hnb x0
    have u3wc := hR.cell hnL hnb x3
    have u4wc := hR.cell hnL hnb x4
    obtain ⟨i2, hi2⟩ : ∃ i : Nat, m0 + ex.length + 1 = i := ⟨_, rfl⟩
    obtain ⟨T, hT⟩ : ∃ T, T = codeB ss (f + 1) i2 s3 := ⟨_, rfl⟩
    obtain ⟨i3, hi3⟩ : ∃ i : Nat, i2 + T.length = i := ⟨_, rfl⟩
    obtain ⟨i4, hi4⟩ : ∃ i : Nat, i3 + 1 = i := ⟨_, rfl⟩
    obtain ⟨Q, hQ⟩ : ∃ Q, Q = codeB ss (f + 1) i4 s4 := ⟨_, rfl⟩
    obtain ⟨i5, hi5⟩ : ∃ i : Nat, i4 + Q.length = i := ⟨_, rfl⟩
    have hz : zs = xs ++ (ex.map tokIns ++ ([(11, (i4 : Int))] ++ (T ++ ([(10, (i5 : Int))] ++ Q)))) := by rw [← HZ0.out, stmtC_7 HE2.out HE1.out HE4.out HE5.out hi2 (i4 := i4) (by rw [← hT]; omega) (i5 := i5) (by rw [← hQ]; omega), ← hT, ← hQ]
    have hzl : zs.length ≤ 1073741824 := HZL.out
    have hln : zs.length = i5 := by rw [hz]; simp only [List.length_append, List.length_cons, List.length_nil, List.length_map]; have := HX.out; omega
    have hi1 : i1 = m0 + ex.length := by have := Hi1.out; rw [List.length_append, List.length_map] at this; have := HX.out; omega
    have b4 : i4 ≤ 1073741824 := by omega
    have b3 : i3 < i4 := by omega
    have b2 : i2 ≤ i3 := by omega
    have b1 : i1 < i2 := by omega
    have b5 : i5 ≤ 1073741824 := by omega
    have b45 : i4 ≤ i5 := by omega
    have Hi2 := Lib.hid (show ((xs ++ ex.map tokIns) ++ [((11 : Int), (0 : Int))]).length = i2 by rw [List.length_append, Hi1.out, List.length_singleton]; omega)
    have Hi3 := Lib.hid (show ((xs ++ ex.map tokIns) ++ [((11 : Int), (0 : Int))] ++ T).length = i3 by rw [List.length_append, Hi2.out]; omega)
    have Hi4 : Hid (i4 = i1 + 1 + (T ++ [((10 : Int), (0 : Int))]).length) := Lib.hid (by rw [List.length_append, List.length_singleton]; omega)
    have bT : i2 + (codeB ss (f + 1) i2 s3).length ≤ 1073741824 := by rw [← hT]; omega
    have bQ : i4 + (codeB ss (f + 1) i4 s4).length ≤ 1073741824 := by rw [← hQ]; omega
    have Hi4b := Lib.hid (show ((xs ++ ex.map tokIns) ++ ([((11 : Int), (i4 : Int))] ++ (T ++ [((10 : Int), (0 : Int))]))).length = i4 by simp only [List.length_append, List.length_cons, List.length_nil, List.length_map]; have := HX.out; omega)
    have Hi3b := Lib.hid (show ((xs ++ ex.map tokIns) ++ ([((11 : Int), (i4 : Int))] ++ T)).length = i3 by simp only [List.length_append, List.length_cons, List.length_nil, List.length_map]; have := HX.out; omega)
    have Hi5 : Hid (i5 = i3 + 1 + Q.length) := Lib.hid (by omega)
    have HQ := Lib.hid hQ
    have HT0 := Lib.hid hT
    have HZ := Lib.hid hz
    clear hz hln hzl hi2 hT hi3 hi4 hi1 hQ hi5
    go_wp2_with fail
    refine (implAddAt _ L _ _ _ _ _ vk (xs ++ ex.map tokIns) 11 0 i1 hR.st Hi1.out (by omega)).mono ?_
    rintro e w6 hr
    obtain ⟨v6, rfl, hR6⟩ := hR.step hr
    clear hr hR
    have u3w6 := hR6.cell hnL hnb x3
    have u4w6 := hR6.cell hnL hnb x4
    go_wp2_with fail
    refine (IH.out _ L c0 c1 c2 (some ⟨b, o, none⟩) n c ss As ns cs A3 n3 c3' s3 v6 ((xs ++ ex.map tokIns) ++ [(11, 0)]) (j + 1) i2 (hR6.sl (Nat.le_of_lt hL1) hvL2 h1) (hR6.sl (Nat.le_of_lt hL1) hvL2 hs1) (hR6.sl (Nat.le_of_lt hL1) hvL2 h31) hR6.st HA.out HLO.out HT.out (by omega) (by omega) Hi2.out bT).mono ?_
    rintro e w7 hr
    obtain ⟨v7, rfl, hR7⟩ := hR6.step hr
    clear hr hR6
    rw [← HT0.out] at hR7
    have u4w7 := hR7.cell hnL hnb x4
    go_wp2_with fail
    refine (implAddAt _ L _ _ _ _ _ v7 (((xs ++ ex.map tokIns) ++ [(11, 0)]) ++ T) 10 0 i3 hR7.st Hi3.out (by omega)).mono ?_
    rintro e w8 hr
    obtain ⟨v8, rfl, hR8⟩ := hR7.step hr
    clear hr hR7
    have u4w8 := hR8.cell hnL hnb x4
    obtain ⟨Ap, np, cp, rfl, hnp⟩ := hR8.st.row.form
    clear hnp
    obtain ⟨g, rfl, hnp, hc, hfz, hp5, hnext⟩ := (hR8.eq (ys := (xs ++ ex.map tokIns) ++ ([((11 : Int), (0 : Int))] ++ (T ++ [((10 : Int), (0 : Int))]))) (by simp only [List.append_assoc])).at_ Hi1.out
    obtain rfl : i4 = np := by have := Hi4.out; omega
    clear hnp
    have hnx := hnext i4
    clear hnext
    go_wp2_with fail
    have gA : (0 : Int) ≤ (i1 : Int) := by omega
    have gB : (i1 : Int) < (i4 : Int) := by omega
    have gC : (i1 : Int) ≤ (i4 : Int) := by omega
    go_region_held3 (fun W => W.cell? ⟨L, 5, none⟩ = some (.slice (some ⟨g, 0, none⟩) i4 cp)) (first | exact hp5 | exact hnx.st.p5 | (go_keep; done)) (first | fail)
    have hR9 := hnx.drew
    clear hc hfz hp5 hR8 gA gB gC
    have u4p := hnx.cell hnL hnb x4
    clear hnx
    go_wp2_with fail
    refine (IH.out _ L c0 c1 c2 (some ⟨b, o, none⟩) n c ss As ns cs A4 n4 c4' s4 (.slice (some ⟨g, 0, none⟩) i4 cp) ((xs ++ ex.map tokIns) ++ ([((11 : Int), (i4 : Int))] ++ (T ++ [((10 : Int), (0 : Int))]))) (j + 1) i4 (hR9.sl (Nat.le_of_lt hL1) hvL2 h1) (hR9.sl (Nat.le_of_lt hL1) hvL2 hs1) (hR9.sl (Nat.le_of_lt hL1) hvL2 h41) hR9.st HA.out HLO.out HEl.out (by omega) (by omega) Hi4b.out bQ).mono ?_
    rintro e w10 hr
    obtain ⟨v10, rfl, hR10⟩ := hR9.step hr
    clear hr hR9
    rw [← HQ.out] at hR10
    obtain ⟨Ap, np, cp, rfl, hnp⟩ := hR10.st.row.form
    clear hnp
    obtain ⟨g, rfl, hnp, hc, hfz, hp5, hnext⟩ := (hR10.eq (ys := ((xs ++ ex.map tokIns) ++ ([((11 : Int), (i4 : Int))] ++ T)) ++ ([((10 : Int), (0 : Int))] ++ Q)) (by simp only [List.append_assoc])).at_ Hi3b.out
    obtain rfl : i5 = np := by have := Hi5.out; omega
    clear hnp
    have hnx := hnext i5
    clear hnext
    go_wp2_with fail
    have gA : (0 : Int) ≤ (i3 : Int) := by omega
    have gB : (i3 : Int) < (i5 : Int) := by omega
    have gC : (i3 : Int) ≤ (i5 : Int) := by omega
    go_region_held3 (fun W => W.cell? ⟨L, 5, none⟩ = some (.slice (some ⟨g, 0, none⟩) i5 cp)) (first | exact hp5 | exact hnx.st.p5 | (go_keep; done)) (first | fail)
    have hR11 := hnx.drew
    clear hc hfz hp5 hR10 gA gB gC
    go_wp2_with fail
    refine bodyPost_ret (v := .tuple #[]) (by simp [results, Try.results255, go_sem]) rfl ?_
    have hfin := (hR11.eq (ys := zs) (by rw [HZ.out]; simp only [List.append_assoc])).ret (r := .tuple #[])
    rw [HW.out] at hfin
    exact hfin.up
  · have u0wc := hR.cell hnL hnb x0
    have u3wc := hR.cell hnL hnb x3
    obtain ⟨i2, hi2⟩ : ∃ i : Nat, m0 + ex.length + 1 = i := ⟨_, rfl⟩
    obtain ⟨T, hT⟩ : ∃ T, T = codeB ss (f + 1) i2 s3 := ⟨_, rfl⟩
    obtain ⟨i3, hi3⟩ : ∃ i : Nat, i2 + T.length = i := ⟨_, rfl⟩
    obtain ⟨i4, hi4⟩ : ∃ i : Nat, i3 + 1 = i := ⟨_, rfl⟩
    have hz : zs = xs ++ (ex.map tokIns ++ ([(11, (i4 : Int))] ++ (T ++ [(10, (m0 : Int))]))) := by rw [← HZ0.out, stmtC_8 HE2.out HE1.out HE4.out hi2 (i4 := i4) (by rw [← hT]; omega), ← hT]
    have hzl : zs.length ≤ 1073741824 := HZL.out
    have hln : zs.length = i4 := by rw [hz]; simp only [List.length_append, List.length_cons, List.length_nil, List.length_map]; have := HX.out; omega
    have hi1 : i1 = m0 + ex.length := by have := Hi1.out; rw [List.length_append, List.length_map] at this; have := HX.out; omega
    have b4 : i4 ≤ 1073741824 := by omega
    have b3 : i3 < i4 := by omega
    have b2 : i2 ≤ i3 := by omega
    have b1 : i1 < i2 := by omega
    have Hi2 := Lib.hid (show ((xs ++ ex.map tokIns) ++ [((11 : Int), (0 : Int))]).length = i2 by rw [List.length_append, Hi1.out, List.length_singleton]; omega)
    have Hi3 := Lib.hid (show ((xs ++ ex.map tokIns) ++ [((11 : Int), (0 : Int))] ++ T).length = i3 by rw [List.length_append, Hi2.out]; omega)
    have Hi4 : Hid (i4 = i1 + 1 + (T ++ [((10 : Int), (m0 : Int))]).length) := Lib.hid (by rw [List.length_append, List.length_singleton]; omega)
    have bT : i2 + (codeB ss (f + 1) i2 s3).length ≤ 1073741824 := by rw [← hT]; omega
    have HT0 := Lib.hid hT
    have HZ := Lib.hid hz
    clear hz hln hzl hi2 hT hi3 hi4 hi1 
    go_wp2_with fail
    refine (implAddAt _ L _ _ _ _ _ vk (xs ++ ex.map tokIns) 11 0 i1 hR.st Hi1.out (by omega)).mono ?_
    rintro e w6 hr
    obtain ⟨v6, rfl, hR6⟩ := hR.step hr
    clear hr hR
    have u3w6 := hR6.cell hnL hnb x3
    go_wp2_with fail
    refine (IH.out _ L c0 c1 c2 (some ⟨b, o, none⟩) n c ss As ns cs A3 n3 c3' s3 v6 ((xs ++ ex.map tokIns) ++ [(11, 0)]) (j + 1) i2 (hR6.sl (Nat.le_of_lt hL1) hvL2 h1) (hR6.sl (Nat.le_of_lt hL1) hvL2 hs1) (hR6.sl (Nat.le_of_lt hL1) hvL2 h31) hR6.st HA.out HLO.out HT.out (by omega) (by omega) Hi2.out bT).mono ?_
    rintro e w7 hr
    obtain ⟨v7, rfl, hR7⟩ := hR6.step hr
    clear hr hR6
    rw [← HT0.out] at hR7
    go_wp2_with fail
    refine (implAddAt _ L _ _ _ _ _ v7 (((xs ++ ex.map tokIns) ++ [(11, 0)]) ++ T) 10 m0 i3 hR7.st Hi3.out (by omega)).mono ?_
    rintro e w8 hr
    obtain ⟨v8, rfl, hR8⟩ := hR7.step hr
    clear hr hR7
    obtain ⟨Ap, np, cp, rfl, hnp⟩ := hR8.st.row.form
    clear hnp
    obtain ⟨g, rfl, hnp, hc, hfz, hp5, hnext⟩ := (hR8.eq (ys := (xs ++ ex.map tokIns) ++ ([((11 : Int), (0 : Int))] ++ (T ++ [(10, (m0 : Int))]))) (by simp only [List.append_assoc])).at_ Hi1.out
    obtain rfl : i4 = np := by have := Hi4.out; omega
    clear hnp
    have hnx := hnext i4
    clear hnext
    go_wp2_with fail
    have gA : (0 : Int) ≤ (i1 : Int) := by omega
    have gB : (i1 : Int) < (i4 : Int) := by omega
    have gC : (i1 : Int) ≤ (i4 : Int) := by omega
    go_region_held3 (fun W => W.cell? ⟨L, 5, none⟩ = some (.slice (some ⟨g, 0, none⟩) i4 cp)) (first | exact hp5 | exact hnx.st.p5 | (go_keep; done)) (first | fail)
    have hR9 := hnx.drew
    clear hc hfz hp5 hR8 gA gB gC
    go_wp2_with fail
    refine bodyPost_ret (v := .tuple #[]) (by simp [results, Try.results255, go_sem]) rfl ?_
    have hfin := (hR9.eq (ys := zs) (by rw [HZ.out]; simp only [List.append_assoc])).ret (r := .tuple #[])
    rw [HW.out] at hfin
    exact hfin.up
  · have u0wc := hR.cell hnL hnb x0
    have HZ := Lib.hid (show xs ++ (ex.map tokIns ++ [(9, 0)]) = zs by rw [← HZ0.out, stmtC_9 HE2.out HE1.out])
    go_wp2_with fail
    refine (implAddAt _ L _ _ _ _ _ vk (xs ++ ex.map tokIns) 9 0 i1 hR.st Hi1.out (by omega)).mono ?_
    rintro e w6 hr
    obtain ⟨v6, rfl, hR6⟩ := hR.step hr
    clear hr hR
    go_wp2_with fail
    refine bodyPost_ret (v := .tuple #[]) (by simp [results, Try.results255, go_sem]) rfl ?_
    have hfin := (hR6.eq (ys := zs) (by rw [List.append_assoc]; exact HZ.out)).ret (r := .tuple #[])
    rw [HW.out] at hfin
    exact hfin.up
set_option maxHeartbeats 2000000 in
theorem implBlockC (f : Nat) : LowBlk f := by
  induction f using Nat.strongRecOn with
  | ind f ih =>
    intro w L c0 c1 c2 A n c ss As ns cs Ab nb cb bl v xs lb a h hs hb hst ha hlo hok hf hn hx hl
    have IH := Lib.hid ih
    have e1 := Lib.hid h.lenEq
    have e2 := hb.lenEq
    have b2 := hb.lenLe
    have HA := Lib.hid ha
    have HLO := Lib.hid hlo
    have HO := Lib.hid hok
    have HX := Lib.hid hx
    have hvL : ∀ g, v.ownBlock = some g → L < g := fun g hg => (hst.lt_own g hg).1
    have hLw := hst.lt
    clear ih ha hlo hok hx
    go_enter Try.func210, Try.ntmps210
    go_wp2_with fail
    go_loopw [8] (fun i wr => ∃ k : Nat, k ≤ nb ∧ i = .int .i64 k ∧ ∃ vk, LowRun w L c0 c1 c2 (.slice A n c) (.slice As ns cs) v wr vk (xs ++ codeB ss (f + 1) a (bl.take k))) (fun i _ => nb - (intOf i).toNat)
    case atStart => exact ⟨0, Nat.zero_le _, rfl, v, by rw [List.take_zero, codeB_nil, List.append_nil]; exact LowRun.start hst⟩
    case round =>
      obtain ⟨k, hk, rfl, vk, hR⟩ := hrel
      by_cases hlt : k < nb
      · obtain ⟨b, o, rfl, _, _, hc1, _⟩ := (hR.sl (Nat.le_of_lt hLw) hvL hb).int_at hlt
        have hx := HO.out (bl[k]'(by omega)) (List.getElem_mem _)
        have hs0 := codeB_succ ss f a bl k (by omega)
        have hle := codeB_take_le ss (f + 1) a bl (k + 1)
        generalize bl[k]'(by omega) = x at hc1 hx hs0
        obtain ⟨x1', x2'⟩ := hx
        obtain ⟨j, rfl⟩ := Int.eq_ofNat_of_zero_le (show 0 ≤ x by omega)
        obtain ⟨f', rfl⟩ : ∃ f', f = f' + 1 := ⟨f - 1, by have := e1.out; omega⟩
        have hj : j < n := by have := e1.out; omega
        rw [hs0, List.length_append] at hle
        obtain ⟨ys, hys⟩ : ∃ ys, ys = codeB ss (f' + 1 + 1) a (bl.take k) := ⟨_, rfl⟩
        rw [← hys] at hs0 hle hR
        have HS := Lib.hid hs0
        have hyx : (xs ++ ys).length = a + ys.length := by rw [List.length_append, HX.out]
        have HYX := Lib.hid hyx
        have hbd : a + ys.length + (stmtC ss (codeB ss (f' + 1)) (j : Int) (a + ys.length)).length ≤ 1073741824 := by omega
        have HBD := Lib.hid hbd
        clear hs0 hys hle hyx hbd
        go_wp2_with fail
        refine (implStmtC f' (IH.out f' (by omega)) _ L c0 c1 c2 A n c ss As ns cs vk (xs ++ ys) j (a + ys.length) (hR.sl (Nat.le_of_lt hLw) hvL h) (hR.sl (Nat.le_of_lt hLw) hvL hs) hR.st HA.out HLO.out hj (by omega) (by have := e1.out; omega) HYX.out HBD.out).mono ?_
        rintro e w2 hr
        obtain ⟨v2, rfl, hR2⟩ := hR.step hr
        have hR3 := hR2.eq (ys := xs ++ codeB ss (f' + 1 + 1) a (bl.take (k + 1))) (by rw [HS.out, List.append_assoc])
        clear hr hR hR2 HS HBD HYX
        go_wp2_with fail
        go_roundw
        case rel => exact ⟨k + 1, by omega, by go_num, _, hR3⟩
        case measure => simp [intOf]; omega
      · rw [List.take_of_length_le (by omega)] at hR
        go_wp2_with fail
        refine bodyPost_ret (v := .tuple #[]) (by simp [results, Try.results210, go_sem]) rfl ?_
        exact hR.ret
end Go.Proofs.Ytkedpaopnnhinaa

/- The code of a statement, of a block: the reference's walk. Printed by lowcgen.py. -/
set_option linter.unusedVariables false
set_option linter.unusedSimpArgs false
set_option maxRecDepth 100000
namespace Go.Proofs.Ytkedpaopnnhinaa
open Go.RowKit
/-- What a block's call does (with so much fuel). -/
def SpcBlk (f : Nat) : Prop := ∀ (w : World) (lo hi : Nat) (y y' : Int) (v2 : Value) (A : Option Addr) (n c : Nat) (ss : List Stmt) (Ab : Option Addr) (nb cb : Nat) (bl : List Int) (lb a : Nat) (z : Int),
  Sl StmtR w lo hi A n c ss → Sl intR w lo hi Ab nb cb bl → hi ≤ w.heap.size → okAll ss → lowOk ss → okB ss lb bl → ss.length ≤ lb + f → ss.length ≤ 1048576 → z = (a : Int) → a + (codeB ss (f + 1) a bl).length ≤ 1073741824 →
  Calls Try.prog 201 #[.agg #[.int .i64 y, .int .i64 y', v2, .slice A n c], .slice Ab nb cb, .int .i64 z] w (RetIns (codeB ss (f + 1) a bl) w)
set_option maxHeartbeats 4000000 in
theorem specStmtC (f : Nat) (IH0 : SpcBlk f) (w : World) (lo hi : Nat) (y y' : Int) (v2 : Value) (A : Option Addr) (n c : Nat) (ss : List Stmt) (j a : Nat) (z : Int)
    (h : Sl StmtR w lo hi A n c ss) (hh : hi ≤ w.heap.size) (ha : okAll ss) (hlo : lowOk ss) (hj : j < n) (hf : ss.length ≤ j + 1 + f) (hn : n ≤ 1048576) (hz0 : z = (a : Int)) (hl : a + (stmtC ss (codeB ss (f + 1)) (j : Int) a).length ≤ 1073741824) :
    Calls Try.prog 248 #[.agg #[.int .i64 y, .int .i64 y', v2, .slice A n c], .int .i64 j, .int .i64 z] w (RetIns (stmtC ss (codeB ss (f + 1)) (j : Int) a) w) := by
  subst hz0
  replace h := h.more (Nat.zero_le lo) hh
  have hh : w.heap.size ≤ w.heap.size := Nat.le_refl _
  have e1 := h.lenEq
  have IH := Lib.hid IH0
  obtain ⟨b, o, y0, y1, A2, n2, c2', ex, A3, n3, c3', s3, A4, n4, c4', s4, rfl, hb1, hb2, hl0, i0, i1, h2, h3, h4, d0, d1, d2, d3, d4⟩ := Stmt_at h hj
  have hE := exOf_at (ss := ss) (k := j) (by omega)
  rw [hl0] at hE
  obtain ⟨E1, E2, E3, E4, E5⟩ := hE
  have hS := hlo _ (List.getElem_mem (by omega : j < ss.length))
  rw [hl0] at hS
  obtain ⟨⟨k1, k9⟩, hex0, hexl, hny, htk⟩ := hS
  have a12 := ha j (by omega)
  rw [E4, E5] at a12
  have HA := Lib.hid ha
  have HLO := Lib.hid hlo
  have HT : Hid (okB ss (j + 1) s3) := Lib.hid a12.1
  have HEl : Hid (okB ss (j + 1) s4) := Lib.hid a12.2
  have HTK : Hid (lowT ex) := Lib.hid htk
  have HE1 := Lib.hid E1
  have HE2 := Lib.hid E2
  have HE3 := Lib.hid E3
  have HE4 := Lib.hid E4
  have HE5 := Lib.hid E5
  have HZL := Lib.hid hl
  generalize hzs : stmtC ss (codeB ss (f + 1)) (j : Int) a = zs at HZL ⊢
  have HZ0 := Lib.hid hzs
  simp only at hny hexl
  have lex := h2.lenEq
  have hn2 : n2 ≤ 12 := by omega
  have HLX := Lib.hid lex
  have ha30 : a ≤ 1073741824 := by omega
  clear a12 ha hlo htk hl0 E1 E2 E3 E4 E5 IH0 hzs hl hex0 lex
  go_enter Try.func248, Try.ntmps248
  go_wp2_with fail
  obtain ⟨w1, hw1⟩ : ∃ w1, w1 = (w.alloc (.cells #[.int .i64 y, .int .i64 y', v2, .slice (some ⟨b, o, none⟩) n c] 173)).alloc (.cells #[.int .i64 y0, .int .i64 y1, .slice A2 n2 c2', .slice A3 n3 c3', .slice A4 n4 c4'] 181) := ⟨_, rfl⟩
  have xs0 : w1.cell? ⟨w.heap.size + 1, 0, none⟩ = some (.int .i64 y0) := by rw [hw1]; simp [go_sem]
  have xs1 : w1.cell? ⟨w.heap.size + 1, 1, none⟩ = some (.int .i64 y1) := by rw [hw1]; simp [go_sem]
  have xs2 : w1.cell? ⟨w.heap.size + 1, 2, none⟩ = some (.slice A2 n2 c2') := by rw [hw1]; simp [go_sem]
  have xs3 : w1.cell? ⟨w.heap.size + 1, 3, none⟩ = some (.slice A3 n3 c3') := by rw [hw1]; simp [go_sem]
  have xs4 : w1.cell? ⟨w.heap.size + 1, 4, none⟩ = some (.slice A4 n4 c4') := by rw [hw1]; simp [go_sem]
  have xf0 : w1.cell? ⟨w.heap.size, 0, none⟩ = some (.int .i64 y) := by rw [hw1]; simp [go_sem]
  have xf1 : w1.cell? ⟨w.heap.size, 1, none⟩ = some (.int .i64 y') := by rw [hw1]; simp [go_sem]
  have xf2 : w1.cell? ⟨w.heap.size, 2, none⟩ = some v2 := by rw [hw1]; simp [go_sem]
  have xf3 : w1.cell? ⟨w.heap.size, 3, none⟩ = some (.slice (some ⟨b, o, none⟩) n c) := by rw [hw1]; simp [go_sem]
  have hb1 : Below w.heap.size w w1 := by rw [hw1]; (repeat (first | with_reducible exact Below.refl _ _ | with_reducible assumption | with_reducible refine below_alloc ?_ _ | ((with_reducible refine Below.setCell ?_ ?_ _); rotate_left; (· first | exact Nat.le_refl _ | (simp; done) | (simp; omega))) | with_reducible refine below_drewN ?_ _ | with_reducible refine Below.drew ?_ | with_reducible refine below_then ?_ (by with_reducible assumption)))
  have hB : w.heap.size + 1 < w1.heap.size := World.block_lt_of_cell? w1 _ xs0
  have h21 := h2.below hb1 (Nat.le_refl _)
  clear d0 d1 d2 d3 d4
  try rw [← hw1]
  clear hw1
  obtain ⟨B, hB0⟩ : ∃ B, B = w1.heap.size := ⟨_, rfl⟩
  have hBw : w.heap.size + 1 < B := by omega
  refine (specL6Expr _ 0 w.heap.size A2 n2 c2' ex h21 (by omega) (by omega) HTK.out).mono ?_
  rintro e w2 ⟨F2, Ar, nr, cr, rfl, or2, fr2, hx2⟩
  have hrl := or2.sl.lenEq
  rw [List.length_map] at hrl
  have hr12 : nr ≤ 12 := by omega
  have HR := Lib.hid hrl
  have hS : SpcRun w1 B w2 (.slice Ar nr cr) (ex.map tokIns) := ⟨own_insRow (e := 190) or2 (fun k hk => by rw [hB0]; exact fr2 k hk), by rw [hB0]; exact hx2, by rw [hB0]; exact hx2.size⟩
  clear hrl or2 fr2 hx2 hB0 h21 h2
  have hk : y0 = 1 ∨ y0 = 2 ∨ y0 = 3 ∨ y0 = 4 ∨ y0 = 5 ∨ y0 = 6 ∨ y0 = 7 ∨ y0 = 8 ∨ y0 = 9 := by omega
  rcases hk with rfl | rfl | rfl | rfl | rfl | rfl | rfl | rfl | rfl
  · have us0w2 := hS.cell (by omega) xs0
    have us1w2 := hS.cell (by omega) xs1
    have HZ := Lib.hid (show ex.map tokIns ++ [(3, y1)] = zs by rw [← HZ0.out, stmtC_1 HE2.out HE1.out HE3.out])
    have hm6 : ∀ o, Below w2.heap.size w2 (w2.alloc o) := fun o => Below.alloc (Below.refl _ _) (Nat.le_refl _) o
    have hz6 := hS.sz
    go_wp2_with (at_builtin; refine wpl_app1 _ rfl _ _ rfl B (Value.slice Ar nr cr) (ex.map tokIns) rfl (hS.row.below (hm6 _)) ⟨w2.heap.size, 0, none⟩ 1 3 y1 rfl (cell_new2 _ _ _ _ (by simp)) (by rw [List.length_map]; omega) (by simp; omega) ?_)
    intro v6 w6 hown hgr hat
    have hS6 := hS.app (hm6 _) hgr hown
    go_wp2_with fail
    go_ret
    exact (hS6.eq (HZ.out)).ret hb1 (by omega)
  · have us0w2 := hS.cell (by omega) xs0
    have HZ := Lib.hid (show ex.map tokIns ++ [(8, 0)] = zs by rw [← HZ0.out, stmtC_2 HE2.out HE1.out])
    have hm6 : ∀ o, Below w2.heap.size w2 (w2.alloc o) := fun o => Below.alloc (Below.refl _ _) (Nat.le_refl _) o
    have hz6 := hS.sz
    go_wp2_with (at_builtin; refine wpl_app1 _ rfl _ _ rfl B (Value.slice Ar nr cr) (ex.map tokIns) rfl (hS.row.below (hm6 _)) ⟨w2.heap.size, 0, none⟩ 1 8 0 rfl (cell_new2 _ _ _ _ (by simp)) (by rw [List.length_map]; omega) (by simp; omega) ?_)
    intro v6 w6 hown hgr hat
    have hS6 := hS.app (hm6 _) hgr hown
    go_wp2_with fail
    go_ret
    exact (hS6.eq (HZ.out)).ret hb1 (by omega)
  · have us0w2 := hS.cell (by omega) xs0
    have uf0w2 := hS.cell (by omega) xf0
    have uf1w2 := hS.cell (by omega) xf1
    have uf2w2 := hS.cell (by omega) xf2
    have uf3w2 := hS.cell (by omega) xf3
    have HZ := Lib.hid (show [(12, idxI (sitesF ss) (j : Int))] = zs by rw [← HZ0.out, stmtC_3 HE2.out])
    go_wp2_with fail
    have hz5 := hS.sz
    refine (specL6Site _ 0 w.heap.size y y' v2 _ n c ss (j : Int) (h.keep (Nat.le_refl _) hh fun q _ hq => (hS.bl.block q (by omega)).trans (hb1.block q (by omega))) (by omega) hn).mono ?_
    rintro e w5 ⟨rfl, hb5⟩
    generalize idxI (sitesF ss) (j : Int) = q at HZ
    have hS5 := hS.below hb5
    have hz6 := hS5.sz
    go_wp2_with fail
    go_ret
    have hn := insRow_new w5 rfl hS5.sz 12 q
    exact ⟨_, rfl, (hn.mono (by omega)).eq HZ.out, hb1.trans ((hS5.bl.alloc hS5.sz _).mono (by omega))⟩
  · have us0w2 := hS.cell (by omega) xs0
    have HZ := Lib.hid (show ex.map tokIns ++ [(13, 0)] = zs by rw [← HZ0.out, stmtC_4 HE2.out HE1.out])
    have hm6 : ∀ o, Below w2.heap.size w2 (w2.alloc o) := fun o => Below.alloc (Below.refl _ _) (Nat.le_refl _) o
    have hz6 := hS.sz
    go_wp2_with (at_builtin; refine wpl_app1 _ rfl _ _ rfl B (Value.slice Ar nr cr) (ex.map tokIns) rfl (hS.row.below (hm6 _)) ⟨w2.heap.size, 0, none⟩ 1 13 0 rfl (cell_new2 _ _ _ _ (by simp)) (by rw [List.length_map]; omega) (by simp; omega) ?_)
    intro v6 w6 hown hgr hat
    have hS6 := hS.app (hm6 _) hgr hown
    go_wp2_with fail
    go_ret
    exact (hS6.eq (HZ.out)).ret hb1 (by omega)
  · have us0w2 := hS.cell (by omega) xs0
    have HZ := Lib.hid (show ex.map tokIns ++ [(15, 0), (16, 0)] = zs by rw [← HZ0.out, stmtC_5 HE2.out HE1.out])
    have hm6 : ∀ o, Below w2.heap.size w2 (w2.alloc o) := fun o => Below.alloc (Below.refl _ _) (Nat.le_refl _) o
    have hz6 := hS.sz
    go_wp2_with (at_builtin; refine wpl_app2 _ rfl _ _ rfl B (.slice Ar nr cr) (ex.map tokIns) rfl (hS.row.below (hm6 _)) ⟨w2.heap.size, 0, none⟩ 2 15 0 16 0 rfl (cell_new4 _ _ _ _ _ _ (by simp)) (by rw [List.length_map]; omega) (by simp; omega) ?_)
    intro v6 w6 hown hgr hat
    have hS6 := hS.app (hm6 _) hgr hown
    go_wp2_with fail
    go_ret
    exact (hS6.eq (HZ.out)).ret hb1 (by omega)
  · have us0w2 := hS.cell (by omega) xs0
    have HZ := Lib.hid (show [(14, 0)] = zs by rw [← HZ0.out, stmtC_6 HE2.out])
    have hz6 := hS.sz
    go_wp2_with fail
    go_ret
    have hn := insRow_new w2 rfl hS.sz 14 0
    exact ⟨_, rfl, (hn.mono (by omega)).eq HZ.out, hb1.trans ((hS.bl.alloc hS.sz _).mono (by omega))⟩
  · have us0w2 := hS.cell (by omega) xs0
    have us3w2 := hS.cell (by omega) xs3
    have us4w2 := hS.cell (by omega) xs4
    have uf0w2 := hS.cell (by omega) xf0
    have uf1w2 := hS.cell (by omega) xf1
    have uf2w2 := hS.cell (by omega) xf2
    have uf3w2 := hS.cell (by omega) xf3
    obtain ⟨i2, hi2⟩ : ∃ i : Nat, a + ex.length + 1 = i := ⟨_, rfl⟩
    obtain ⟨T, hT⟩ : ∃ T, T = codeB ss (f + 1) i2 s3 := ⟨_, rfl⟩
    obtain ⟨i4, hi4⟩ : ∃ i : Nat, i2 + T.length + 1 = i := ⟨_, rfl⟩
    obtain ⟨Q, hQ⟩ : ∃ Q, Q = codeB ss (f + 1) i4 s4 := ⟨_, rfl⟩
    obtain ⟨i5, hi5⟩ : ∃ i : Nat, i4 + Q.length = i := ⟨_, rfl⟩
    have hz : zs = ex.map tokIns ++ ([(11, (i4 : Int))] ++ (T ++ ([(10, (i5 : Int))] ++ Q))) := by rw [← HZ0.out, stmtC_7 HE2.out HE1.out HE4.out HE5.out hi2 (i4 := i4) (by rw [← hT]; omega) (i5 := i5) (by rw [← hQ]; omega), ← hT, ← hQ]
    have hzl : a + zs.length ≤ 1073741824 := HZL.out
    have hln : a + zs.length = i5 := by rw [hz]; simp only [List.length_append, List.length_cons, List.length_nil, List.length_map]; omega
    have b4 : i4 ≤ 1073741824 := by omega
    have b5 : i5 ≤ 1073741824 := by omega
    have bT : i2 + (codeB ss (f + 1) i2 s3).length ≤ 1073741824 := by rw [← hT]; omega
    have hTl : T.length ≤ 1073741824 := by omega
    have bQ : i4 + (codeB ss (f + 1) i4 s4).length ≤ 1073741824 := by rw [← hQ]; omega
    have hQl : Q.length ≤ 1073741824 := by omega
    have HQ := Lib.hid hQ
    have HI5 := Lib.hid hi5
    have HT0 := Lib.hid hT
    have HZ := Lib.hid hz
    have HI2 := Lib.hid hi2
    have HI4 := Lib.hid hi4
    clear hz hln hzl hi2 hT hi4 hQ hi5
    go_wp2_with fail
    have hzzw2 := hS.sz
    refine (IH.out _ 0 w.heap.size y y' v2 (some ⟨b, o, none⟩) n c ss A3 n3 c3' s3 (j + 1) i2 _ (h.keep (Nat.le_refl _) (Nat.le_refl _) (fun q _ hq => (hS.bl.block q (by omega)).trans (hb1.block q (by omega)))) (h3.keep (Nat.le_refl _) (Nat.le_refl _) (fun q _ hq => (hS.bl.block q (by omega)).trans (hb1.block q (by omega)))) (by omega) HA.out HLO.out HT.out (by omega) (by omega) (by have := HI2.out; have := HR.out; omega) bT).mono ?_
    rintro e w6 ⟨v6, rfl, hrT, hbT⟩
    rw [← HT0.out] at hrT
    obtain ⟨AT, nT, cT, rfl, hnT⟩ := hrT.form
    have HNT := Lib.hid hnT
    have hnlT : nT ≤ 1073741824 := by omega
    clear hnT
    have hS6 := hS.below hbT
    have howT : ∀ g, (Value.slice Ar nr cr).ownBlock = some g → g < w2.heap.size := fun g hg => (hS.row.lt g hg).2
    clear hbT
    have us0w6 := hS6.cell (by omega) xs0
    have us4w6 := hS6.cell (by omega) xs4
    have uf0w6 := hS6.cell (by omega) xf0
    have uf1w6 := hS6.cell (by omega) xf1
    have uf2w6 := hS6.cell (by omega) xf2
    have uf3w6 := hS6.cell (by omega) xf3
    have hm7 : ∀ o, Below w6.heap.size w6 (w6.alloc o) := fun o => Below.alloc (Below.refl _ _) (Nat.le_refl _) o
    have hz7 := hS6.sz
    go_wp2_with (at_builtin; refine wpl_app1 _ rfl _ _ rfl B (Value.slice Ar nr cr) (ex.map tokIns) rfl (hS6.row.below (hm7 _)) ⟨w6.heap.size, 0, none⟩ 1 11 _ rfl (cell_new2 _ _ _ _ (by simp)) (by rw [List.length_map]; omega) (by simp; omega) ?_)
    intro v7 w7 hown hgr hat
    replace hown := hown.eq (l' := ((ex.map tokIns) ++ [((11 : Int), ((i4 : Nat) : Int))])) (by have := HI2.out; have := HI4.out; have := HR.out; have := HNT.out; first | rfl | (simp; done) | (simp; omega))
    have hS7 := hS6.app (hm7 _) hgr hown
    replace hrT := row_stands (hrT.below (hm7 _)) hgr howT
    clear hgr hat hown
    have us0w7 := hS7.cell (by omega) xs0
    have us4w7 := hS7.cell (by omega) xs4
    have uf0w7 := hS7.cell (by omega) xf0
    have uf1w7 := hS7.cell (by omega) xf1
    have uf2w7 := hS7.cell (by omega) xf2
    have uf3w7 := hS7.cell (by omega) xf3
    have hz8 := hS7.sz
    go_wp2_with (at_builtin; refine wpl_appR _ rfl _ _ rfl B v7 ((ex.map tokIns) ++ [((11 : Int), ((i4 : Nat) : Int))]) rfl hS7.row _ _ T rfl hrT (by rw [List.length_append, List.length_map, List.length_singleton]; omega) (by omega) ?_)
    intro v8 w8 hown hgr hat
    replace hown := hown.eq (l' := ((ex.map tokIns) ++ [((11 : Int), ((i4 : Nat) : Int))]) ++ T) (by first | rfl | (simp; done))
    have hS8 := hS7.app (Below.refl _ _) hgr hown
    clear hrT howT hgr hat hown
    have us0w8 := hS8.cell (by omega) xs0
    have us4w8 := hS8.cell (by omega) xs4
    have uf0w8 := hS8.cell (by omega) xf0
    have uf1w8 := hS8.cell (by omega) xf1
    have uf2w8 := hS8.cell (by omega) xf2
    have uf3w8 := hS8.cell (by omega) xf3
    go_wp2_with fail
    have hzzw8 := hS8.sz
    refine (IH.out _ 0 w.heap.size y y' v2 (some ⟨b, o, none⟩) n c ss A4 n4 c4' s4 (j + 1) i4 _ (h.keep (Nat.le_refl _) (Nat.le_refl _) (fun q _ hq => (hS8.bl.block q (by omega)).trans (hb1.block q (by omega)))) (h4.keep (Nat.le_refl _) (Nat.le_refl _) (fun q _ hq => (hS8.bl.block q (by omega)).trans (hb1.block q (by omega)))) (by omega) HA.out HLO.out HEl.out (by omega) (by omega) (by have := HI2.out; have := HI4.out; have := HR.out; have := HNT.out; omega) bQ).mono ?_
    rintro e w9 ⟨v9, rfl, hrQ, hbQ⟩
    rw [← HQ.out] at hrQ
    obtain ⟨AQ, nQ, cQ, rfl, hnQ⟩ := hrQ.form
    have HNQ := Lib.hid hnQ
    have hnlQ : nQ ≤ 1073741824 := by omega
    clear hnQ
    have hS9 := hS8.below hbQ
    have howQ : ∀ g, v8.ownBlock = some g → g < w8.heap.size := fun g hg => (hS8.row.lt g hg).2
    clear hbQ
    have hm10 : ∀ o, Below w9.heap.size w9 (w9.alloc o) := fun o => Below.alloc (Below.refl _ _) (Nat.le_refl _) o
    have hz10 := hS9.sz
    go_wp2_with (at_builtin; refine wpl_app1 _ rfl _ _ rfl B v8 (((ex.map tokIns) ++ [((11 : Int), ((i4 : Nat) : Int))]) ++ T) rfl (hS9.row.below (hm10 _)) ⟨w9.heap.size, 0, none⟩ 1 10 _ rfl (cell_new2 _ _ _ _ (by simp)) (by rw [List.length_append, List.length_append, List.length_map, List.length_singleton]; omega) (by simp; omega) ?_)
    intro v10 w10 hown hgr hat
    replace hown := hown.eq (l' := ((((ex.map tokIns) ++ [((11 : Int), ((i4 : Nat) : Int))]) ++ T) ++ [((10 : Int), ((i5 : Nat) : Int))])) (by have := HI2.out; have := HI4.out; have := HR.out; have := HNT.out; have := HI5.out; have := HNQ.out; first | rfl | (simp; done) | (simp; omega))
    have hS10 := hS9.app (hm10 _) hgr hown
    replace hrQ := row_stands (hrQ.below (hm10 _)) hgr howQ
    clear hgr hat hown
    have hz11 := hS10.sz
    go_wp2_with (at_builtin; refine wpl_appR _ rfl _ _ rfl B v10 ((((ex.map tokIns) ++ [((11 : Int), ((i4 : Nat) : Int))]) ++ T) ++ [((10 : Int), ((i5 : Nat) : Int))]) rfl hS10.row _ _ Q rfl hrQ (by rw [List.length_append, List.length_append, List.length_append, List.length_map, List.length_singleton, List.length_singleton]; omega) (by omega) ?_)
    intro v11 w11 hown hgr hat
    replace hown := hown.eq (l' := ((((ex.map tokIns) ++ [((11 : Int), ((i4 : Nat) : Int))]) ++ T) ++ [((10 : Int), ((i5 : Nat) : Int))]) ++ Q) (by first | rfl | (simp; done))
    have hS11 := hS10.app (Below.refl _ _) hgr hown
    clear hrQ howQ hgr hat hown
    go_wp2_with fail
    go_ret
    exact (hS11.eq (by rw [HZ.out]; simp only [List.append_assoc])).ret hb1 (by omega)
  · have us0w2 := hS.cell (by omega) xs0
    have us3w2 := hS.cell (by omega) xs3
    have uf0w2 := hS.cell (by omega) xf0
    have uf1w2 := hS.cell (by omega) xf1
    have uf2w2 := hS.cell (by omega) xf2
    have uf3w2 := hS.cell (by omega) xf3
    obtain ⟨i2, hi2⟩ : ∃ i : Nat, a + ex.length + 1 = i := ⟨_, rfl⟩
    obtain ⟨T, hT⟩ : ∃ T, T = codeB ss (f + 1) i2 s3 := ⟨_, rfl⟩
    obtain ⟨i4, hi4⟩ : ∃ i : Nat, i2 + T.length + 1 = i := ⟨_, rfl⟩
    have hz : zs = ex.map tokIns ++ ([(11, (i4 : Int))] ++ (T ++ [(10, (a : Int))])) := by rw [← HZ0.out, stmtC_8 HE2.out HE1.out HE4.out hi2 (i4 := i4) (by rw [← hT]; omega), ← hT]
    have hzl : a + zs.length ≤ 1073741824 := HZL.out
    have hln : a + zs.length = i4 := by rw [hz]; simp only [List.length_append, List.length_cons, List.length_nil, List.length_map]; omega
    have b4 : i4 ≤ 1073741824 := by omega
    have bT : i2 + (codeB ss (f + 1) i2 s3).length ≤ 1073741824 := by rw [← hT]; omega
    have hTl : T.length ≤ 1073741824 := by omega
    have HT0 := Lib.hid hT
    have HZ := Lib.hid hz
    have HI2 := Lib.hid hi2
    have HI4 := Lib.hid hi4
    clear hz hln hzl hi2 hT hi4 
    go_wp2_with fail
    have hzzw2 := hS.sz
    refine (IH.out _ 0 w.heap.size y y' v2 (some ⟨b, o, none⟩) n c ss A3 n3 c3' s3 (j + 1) i2 _ (h.keep (Nat.le_refl _) (Nat.le_refl _) (fun q _ hq => (hS.bl.block q (by omega)).trans (hb1.block q (by omega)))) (h3.keep (Nat.le_refl _) (Nat.le_refl _) (fun q _ hq => (hS.bl.block q (by omega)).trans (hb1.block q (by omega)))) (by omega) HA.out HLO.out HT.out (by omega) (by omega) (by have := HI2.out; have := HR.out; omega) bT).mono ?_
    rintro e w6 ⟨v6, rfl, hrT, hbT⟩
    rw [← HT0.out] at hrT
    obtain ⟨AT, nT, cT, rfl, hnT⟩ := hrT.form
    have HNT := Lib.hid hnT
    have hnlT : nT ≤ 1073741824 := by omega
    clear hnT
    have hS6 := hS.below hbT
    have howT : ∀ g, (Value.slice Ar nr cr).ownBlock = some g → g < w2.heap.size := fun g hg => (hS.row.lt g hg).2
    clear hbT
    have us0w6 := hS6.cell (by omega) xs0
    have hm7 : ∀ o, Below w6.heap.size w6 (w6.alloc o) := fun o => Below.alloc (Below.refl _ _) (Nat.le_refl _) o
    have hz7 := hS6.sz
    go_wp2_with (at_builtin; refine wpl_app1 _ rfl _ _ rfl B (Value.slice Ar nr cr) (ex.map tokIns) rfl (hS6.row.below (hm7 _)) ⟨w6.heap.size, 0, none⟩ 1 11 _ rfl (cell_new2 _ _ _ _ (by simp)) (by rw [List.length_map]; omega) (by simp; omega) ?_)
    intro v7 w7 hown hgr hat
    replace hown := hown.eq (l' := ((ex.map tokIns) ++ [((11 : Int), ((i4 : Nat) : Int))])) (by have := HI2.out; have := HI4.out; have := HR.out; have := HNT.out; first | rfl | (simp; done) | (simp; omega))
    have hS7 := hS6.app (hm7 _) hgr hown
    replace hrT := row_stands (hrT.below (hm7 _)) hgr howT
    clear hgr hat hown
    have us0w7 := hS7.cell (by omega) xs0
    have hz8 := hS7.sz
    go_wp2_with (at_builtin; refine wpl_appR _ rfl _ _ rfl B v7 ((ex.map tokIns) ++ [((11 : Int), ((i4 : Nat) : Int))]) rfl hS7.row _ _ T rfl hrT (by rw [List.length_append, List.length_map, List.length_singleton]; omega) (by omega) ?_)
    intro v8 w8 hown hgr hat
    replace hown := hown.eq (l' := ((ex.map tokIns) ++ [((11 : Int), ((i4 : Nat) : Int))]) ++ T) (by first | rfl | (simp; done))
    have hS8 := hS7.app (Below.refl _ _) hgr hown
    clear hrT howT hgr hat hown
    have us0w8 := hS8.cell (by omega) xs0
    have hm9 : ∀ o, Below w8.heap.size w8 (w8.alloc o) := fun o => Below.alloc (Below.refl _ _) (Nat.le_refl _) o
    have hz9 := hS8.sz
    go_wp2_with (at_builtin; refine wpl_app1 _ rfl _ _ rfl B v8 (((ex.map tokIns) ++ [((11 : Int), ((i4 : Nat) : Int))]) ++ T) rfl (hS8.row.below (hm9 _)) ⟨w8.heap.size, 0, none⟩ 1 10 _ rfl (cell_new2 _ _ _ _ (by simp)) (by rw [List.length_append, List.length_append, List.length_map, List.length_singleton]; omega) (by simp; omega) ?_)
    intro v9 w9 hown hgr hat
    replace hown := hown.eq (l' := ((((ex.map tokIns) ++ [((11 : Int), ((i4 : Nat) : Int))]) ++ T) ++ [((10 : Int), (a : Int))])) (by first | rfl | (simp; done) | (simp; omega))
    have hS9 := hS8.app (hm9 _) hgr hown
    go_wp2_with fail
    go_ret
    exact (hS9.eq (by rw [HZ.out]; simp only [List.append_assoc])).ret hb1 (by omega)
  · have us0w2 := hS.cell (by omega) xs0
    have HZ := Lib.hid (show ex.map tokIns ++ [(9, 0)] = zs by rw [← HZ0.out, stmtC_9 HE2.out HE1.out])
    have hm6 : ∀ o, Below w2.heap.size w2 (w2.alloc o) := fun o => Below.alloc (Below.refl _ _) (Nat.le_refl _) o
    have hz6 := hS.sz
    go_wp2_with (at_builtin; refine wpl_app1 _ rfl _ _ rfl B (Value.slice Ar nr cr) (ex.map tokIns) rfl (hS.row.below (hm6 _)) ⟨w2.heap.size, 0, none⟩ 1 9 0 rfl (cell_new2 _ _ _ _ (by simp)) (by rw [List.length_map]; omega) (by simp; omega) ?_)
    intro v6 w6 hown hgr hat
    have hS6 := hS.app (hm6 _) hgr hown
    go_wp2_with fail
    go_ret
    exact (hS6.eq (HZ.out)).ret hb1 (by omega)
set_option maxHeartbeats 2000000 in
theorem specBlockC (f : Nat) : SpcBlk f := by
  induction f using Nat.strongRecOn with
  | ind f ih =>
    intro w lo hi y y' v2 A n c ss Ab nb cb bl lb a z h hb hh ha hlo hok hf hn hz0 hl
    subst hz0
    have IH := Lib.hid ih
    replace h := h.more (Nat.zero_le lo) hh
    replace hb := hb.more (Nat.zero_le lo) hh
    have e1 := Lib.hid h.lenEq
    have e2 := hb.lenEq
    have b2 := hb.lenLe
    have HA := Lib.hid ha
    have HLO := Lib.hid hlo
    have HO := Lib.hid hok
    have HL := Lib.hid hl
    have ha30 : a ≤ 1073741824 := by omega
    clear ih ha hlo hok hl
    go_enter Try.func201, Try.ntmps201
    go_wp2_with fail
    obtain ⟨w1, hw1⟩ : ∃ w1, w1 = w.alloc (.cells #[.int .i64 y, .int .i64 y', v2, .slice A n c] 173) := ⟨_, rfl⟩
    have xf0 : w1.cell? ⟨w.heap.size, 0, none⟩ = some (.int .i64 y) := by rw [hw1]; simp [go_sem]
    have xf1 : w1.cell? ⟨w.heap.size, 1, none⟩ = some (.int .i64 y') := by rw [hw1]; simp [go_sem]
    have xf2 : w1.cell? ⟨w.heap.size, 2, none⟩ = some v2 := by rw [hw1]; simp [go_sem]
    have xf3 : w1.cell? ⟨w.heap.size, 3, none⟩ = some (.slice A n c) := by rw [hw1]; simp [go_sem]
    have hb1 : Below w.heap.size w w1 := by rw [hw1]; (repeat (first | with_reducible exact Below.refl _ _ | with_reducible assumption | with_reducible refine below_alloc ?_ _ | ((with_reducible refine Below.setCell ?_ ?_ _); rotate_left; (· first | exact Nat.le_refl _ | (simp; done) | (simp; omega))) | with_reducible refine below_drewN ?_ _ | with_reducible refine Below.drew ?_ | with_reducible refine below_then ?_ (by with_reducible assumption)))
    have hB : w.heap.size < w1.heap.size := World.block_lt_of_cell? w1 _ xf0
    rw [← hw1]
    clear hw1
    obtain ⟨B, hB0⟩ : ∃ B, B = w1.heap.size := ⟨_, rfl⟩
    have hBw : w.heap.size < B := by omega
    have hBl : B ≤ w1.heap.size := by omega
    clear hB0
    go_loopw [7, 12] (fun v i wr => ∃ k : Nat, k ≤ nb ∧ i = .int .i64 k ∧ SpcRun w1 B wr v (codeB ss (f + 1) a (bl.take k))) (fun _ i _ => nb - (intOf i).toNat)
    case atStart => exact ⟨0, Nat.zero_le _, rfl, by rw [List.take_zero, codeB_nil]; exact ⟨InsRow.nil_ _ _, Below.refl _ _, hBl⟩⟩
    case round =>
      rename_i v0 _
      obtain ⟨k, hk, rfl, hR⟩ := hrel
      have HK : Hid (∀ q, 0 ≤ q → q < w.heap.size → wr.heap[q]? = w.heap[q]?) := Lib.hid (fun q _ hq => (hR.bl.block q (by omega)).trans (hb1.block q (by omega)))
      by_cases hlt : k < nb
      · obtain ⟨b, o, rfl, _, _, hc1, _⟩ := (hb.keep (Nat.le_refl _) (Nat.le_refl _) HK.out).int_at hlt
        have hx := HO.out (bl[k]'(by omega)) (List.getElem_mem _)
        have hs0 := codeB_succ ss f a bl k (by omega)
        have hle := codeB_take_le ss (f + 1) a bl (k + 1)
        generalize bl[k]'(by omega) = x at hc1 hx hs0
        obtain ⟨x1', x2'⟩ := hx
        obtain ⟨j, rfl⟩ := Int.eq_ofNat_of_zero_le (show 0 ≤ x by omega)
        obtain ⟨f', rfl⟩ : ∃ f', f = f' + 1 := ⟨f - 1, by have := e1.out; omega⟩
        have hj : j < n := by have := e1.out; omega
        have hl := HL.out
        rw [hs0, List.length_append] at hle
        obtain ⟨ys, hys⟩ : ∃ ys, ys = codeB ss (f' + 1 + 1) a (bl.take k) := ⟨_, rfl⟩
        rw [← hys] at hs0 hle hR
        have hyl : ys.length ≤ 1073741824 := by omega
        have HS := Lib.hid hs0
        have hbd : a + ys.length + (stmtC ss (codeB ss (f' + 1)) (j : Int) (a + ys.length)).length ≤ 1073741824 := by omega
        have HBD := Lib.hid hbd
        obtain ⟨Ay, ny, cy, rfl, hny⟩ := hR.row.form
        have HNY := Lib.hid hny
        have hnyl : ny ≤ 1073741824 := by omega
        have uf0 := hR.cell (by omega) xf0
        have uf1 := hR.cell (by omega) xf1
        have uf2 := hR.cell (by omega) xf2
        have uf3 := hR.cell (by omega) xf3
        have hsz := hR.sz
        have hbd1 : (stmtC ss (codeB ss (f' + 1)) (j : Int) (a + ys.length)).length ≤ 1073741824 := by omega
        clear hs0 hys hle hbd hl hny
        go_wp2_with fail
        refine (specStmtC f' (IH.out f' (by omega)) _ 0 w.heap.size y y' v2 A n c ss j (a + ys.length) _ (h.keep (Nat.le_refl _) (Nat.le_refl _) HK.out) (by omega) HA.out HLO.out hj (by omega) (by have := e1.out; omega) (by have := HNY.out; omega) HBD.out).mono ?_
        rintro e w2 ⟨vT, rfl, hrT, hbT⟩
        generalize stmtC ss (codeB ss (f' + 1)) (j : Int) (a + ys.length) = T at hrT HS hbd1
        have hR2 := hR.below hbT
        have hz2 := hR2.sz
        clear hR hbT uf0 uf1 uf2 uf3 HBD
        go_wp2_with (at_builtin; refine wpl_appR _ rfl _ _ rfl B (.slice Ay ny cy) ys rfl hR2.row _ _ T rfl hrT (by omega) (by omega) ?_)
        intro v3 w3 hown hgr hat
        have hR3 := hR2.app (Below.refl _ _) hgr (hown.eq HS.out.symm)
        clear hown hgr hat hR2 hrT
        go_wp2_with fail
        go_roundw
        case rel => exact ⟨k + 1, by omega, by go_num, hR3⟩
        case measure => simp [intOf]; omega
      · rw [List.take_of_length_le (by omega)] at hR
        go_wp2_with fail
        go_ret
        exact hR.ret hb1 (by omega)
end Go.Proofs.Ytkedpaopnnhinaa

/- A code that is built: its rows, its sites; the result. Plain lemmas. -/
set_option linter.unusedVariables false
set_option linter.unusedSimpArgs false
set_option maxRecDepth 100000
namespace Go.Proofs.Ytkedpaopnnhinaa
open Go.RowKit
def padK (m k : Nat) : List Ins := (List.range k).map fun (i : Nat) => (17, ((m - 1 - i : Nat) : Int))
def padRK (pad k : Nat) : List Row := (List.range k).map fun (i : Nat) => (((pad + i : Nat) : Int), ((pad + i + 1 : Nat) : Int), ((pad + i + 1 : Nat) : Int))
theorem padK_succ (m k : Nat) : padK m (k + 1) = padK m k ++ [(17, ((m - 1 - k : Nat) : Int))] := by simp [padK, List.range_succ]
theorem padRK_succ (pad k : Nat) : padRK pad (k + 1) = padRK pad k ++ [(((pad + k : Nat) : Int), ((pad + k + 1 : Nat) : Int), ((pad + k + 1 : Nat) : Int))] := by simp [padRK, List.range_succ]
theorem padK_len (m k : Nat) : (padK m k).length = k := by simp [padK]
theorem padRK_len (m k : Nat) : (padRK m k).length = k := by simp [padRK]
theorem padK_all (pad m : Nat) : padI pad m = padK m m := rfl
theorem padRK_all (pad m : Nat) : padR pad m = padRK pad m := rfl
theorem padK_ok {m k : Nat} (hm : m ≤ 1099511627776) : ∀ x, x ∈ padK m k → okI x := by
  intro x hx
  obtain ⟨i, _, rfl⟩ := List.mem_map.1 hx
  exact ⟨by unfold I64; omega, by unfold I64; omega⟩
theorem padRK_ok {pad k : Nat} (hp : pad + k ≤ 1099511627776) : ∀ x, x ∈ padRK pad k → I64 x.1 ∧ I64 x.2.1 ∧ I64 x.2.2 := by
  intro x hx
  obtain ⟨i, hi, rfl⟩ := List.mem_map.1 hx
  have := List.mem_range.1 hi
  refine ⟨?_, ?_, ?_⟩ <;> (simp only [I64]; omega)
theorem Try.infoRow2 : (Try.prog.info? 196).map (fun i => (i.zero, i.size, i.bytes)) = some (some (.agg #[.int .i64 0, .int .i64 0, .int .i64 0]), 3, 24) := by kernel_rfl
/-- A row of the call's own that holds rows. -/
def RowRow (w : World) (base : Nat) (v : Value) (l : List Row) : Prop := w.ownsRow base 196 3 v l.length (encL rowV l)
/-- A row of the call's own that holds ints. -/
def IntRow (w : World) (base : Nat) (v : Value) (l : List Int) : Prop := w.ownsRow base 3 1 v l.length (l.map (Value.int .i64))
section
variable {w w' : World} {base : Nat} {v : Value}
theorem RowRow.keep {l : List Row} (h : RowRow w base v l) (hk : ∀ k, v.ownBlock = some k → w'.heap[k]? = w.heap[k]?) : RowRow w' base v l := ownsRow_keep0 h hk
theorem IntRow.keep {l : List Int} (h : IntRow w base v l) (hk : ∀ k, v.ownBlock = some k → w'.heap[k]? = w.heap[k]?) : IntRow w' base v l := ownsRow_keep0 h hk
theorem InsRow.keep {l : List Ins} (h : InsRow w base v l) (hk : ∀ k, v.ownBlock = some k → w'.heap[k]? = w.heap[k]?) : InsRow w' base v l := ownsRow_keep0 h hk
theorem RowRow.below {l : List Row} (h : RowRow w base v l) (hb : Below w.heap.size w w') : RowRow w' base v l := ownsRow_below h hb
theorem IntRow.below {l : List Int} (h : IntRow w base v l) (hb : Below w.heap.size w w') : IntRow w' base v l := ownsRow_below h hb
theorem RowRow.lt {l : List Row} (h : RowRow w base v l) : ∀ g, v.ownBlock = some g → base ≤ g ∧ g < w.heap.size := fun g hg => World.ownsRow.lt h g hg
theorem IntRow.lt {l : List Int} (h : IntRow w base v l) : ∀ g, v.ownBlock = some g → base ≤ g ∧ g < w.heap.size := fun g hg => World.ownsRow.lt h g hg
theorem RowRow.nil_ (w : World) (base : Nat) : RowRow w base (.slice none 0 0) [] := by unfold RowRow; simpa [encL] using World.ownsRow_nil _ _ _ _
theorem IntRow.nil_ (w : World) (base : Nat) : IntRow w base (.slice none 0 0) [] := by unfold IntRow; simpa using World.ownsRow_nil _ _ _ _
theorem RowRow.form {l : List Row} (h : RowRow w base v l) : ∃ A n c, v = .slice A n c ∧ n = l.length := by
  rcases h.2 with ⟨h, h0⟩ | ⟨g, cap, cur, h, _⟩
  · exact ⟨_, _, _, h, h0.symm⟩
  · exact ⟨_, _, _, h, rfl⟩
theorem IntRow.form {l : List Int} (h : IntRow w base v l) : ∃ A n c, v = .slice A n c ∧ n = l.length := by
  rcases h.2 with ⟨h, h0⟩ | ⟨g, cap, cur, h, _⟩
  · exact ⟨_, _, _, h, h0.symm⟩
  · exact ⟨_, _, _, h, rfl⟩
theorem RowRow.eq {l l' : List Row} (h : RowRow w base v l) (e : l = l') : RowRow w base v l' := e ▸ h
theorem IntRow.eq {l l' : List Int} (h : IntRow w base v l) (e : l = l') : IntRow w base v l' := e ▸ h
theorem RowRow.own {l : List Row} (h : RowRow w base v l) (hi : ∀ x, x ∈ l → I64 x.1 ∧ I64 x.2.1 ∧ I64 x.2.2) : OwnSl RowR w 196 v.ownBlock.toList v l := own_flat h (fun x hx => row_own (hi x hx))
theorem IntRow.own {l : List Int} (h : IntRow w base v l) (hi : ∀ x, x ∈ l → I64 x) : OwnSl intR w 3 v.ownBlock.toList v l := own_ints h hi
theorem InsRow.own {l : List Ins} (h : InsRow w base v l) (hi : ∀ x, x ∈ l → okI x) : OwnSl InsR w 190 v.ownBlock.toList v l := own_flat h (fun x hx => ins_own (hi x hx))
theorem rowRow_new (w : World) {base g : Nat} (hg : w.heap.size = g) (hb : base ≤ g) (p q r : Int) : RowRow (w.alloc (.cells #[.int .i64 p, .int .i64 q, .int .i64 r] 196)) base (.slice (some ⟨g, 0, none⟩) 1 1) [(p, q, r)] := by
  subst hg
  exact ⟨rfl, .inr ⟨_, 1, _, rfl, hb, heap_alloc_new w _, Nat.le_refl _, by unfold maxLen; omega, rfl, rfl⟩⟩
end
theorem cell_new3 (w : World) (u v u' : Value) (t : TypeId) {g : Nat} (hg : w.heap.size = g) : ∀ j x, [u, v, u'][j]? = some x → (w.alloc (.cells #[u, v, u'] t)).cell? ((⟨g, 0, none⟩ : Addr).add j) = some x := by
  intro j x h
  subst hg
  have hj : j < 3 := by
    have := (List.getElem?_eq_some_iff.1 h).1
    simpa using this
  have e : j = 0 ∨ j = 1 ∨ j = 2 := by omega
  rcases e with rfl | rfl | rfl
  · simp at h; subst h
    rw [show (⟨w.heap.size, 0, none⟩ : Addr).add 0 = ⟨w.heap.size, 0, none⟩ from rfl, cell_of_row _ _ _ _ _ _ (heap_alloc_new w _)]; rfl
  · simp at h; subst h
    rw [show (⟨w.heap.size, 0, none⟩ : Addr).add 1 = ⟨w.heap.size, 1, none⟩ from rfl, cell_of_row _ _ _ _ _ _ (heap_alloc_new w _)]; rfl
  · simp at h; subst h
    rw [show (⟨w.heap.size, 0, none⟩ : Addr).add 2 = ⟨w.heap.size, 2, none⟩ from rfl, cell_of_row _ _ _ _ _ _ (heap_alloc_new w _)]; rfl
section
variable (w : World)
/-- One row more. -/
theorem wpl_rapp1 {ops : Array Oper} {rest : List Oper} {o : Oper} {a : Act} {Q : Exit → Act → World → Prop} (hgd : o.guard = none) (s x : Operand)
    (ho : o.op = .call { callee := .builtin .append, args := #[s, x], argTypes := #[42, 42] })
    (base : Nat) (v : Value) (l : List Row) (hs : a.eval s = v) (hown : RowRow w base v l) (ad : Addr) (c : Nat) (p q r : Int) (hx : a.eval x = .slice (some ad) 1 c)
    (hnews : ∀ j u, ([.int .i64 p, .int .i64 q, .int .i64 r] : List Value)[j]? = some u → w.cell? (ad.add j) = some u) (hl : l.length ≤ 1099511627776) (hbase : base ≤ w.heap.size)
    (h : ∀ v' w', RowRow w' base v' (l ++ [(p, q, r)]) → w.grownBy w' v.ownBlock → (v'.ownBlock = v.ownBlock ∨ v'.ownBlock = some w.heap.size) → wpList Try.prog ops Q rest (a.put o.dst v') w') :
    wpList Try.prog ops Q (o :: rest) a w := by
  obtain ⟨inf, hif, hz0, hz1, hz2⟩ := info_parts Try.infoRow2
  refine wpList_append_own_at w hgd s x _ ho base 196 inf _ 3 24 Try.underlying42 hif hz0 hz1 hz2 rfl (by decide) v _ _ hs hown ad 1 c _ hx rfl hnews (by intro u hu; simp at hu; rcases hu with rfl | rfl | rfl <;> rfl) (by unfold maxLen; omega) (by omega) hbase ?_
  intro v' w' h1 h2 _ h3
  refine h v' w' ?_ h2 h3
  unfold RowRow
  rw [encL_append, encL_one, List.length_append]; exact h1
/-- One int more, in a region that draws. -/
theorem step_iapp1 {ops : Array Oper} {o : Oper} {a : Act} {K : Act → World → Prop} {Q : Exit → Act → World → Prop} {E : Prop} (hgd : o.guard = none) (s x : Operand)
    (ho : o.op = .call { callee := .builtin .append, args := #[s, x], argTypes := #[33, 33] })
    (base : Nat) (v : Value) (l : List Int) (hs : a.eval s = v) (hown : IntRow w base v l) (g : Nat) (c : Nat) (p : Int) (hx : a.eval x = .slice (some ⟨g, 0, none⟩) 1 c)
    (hc : w.cell? ⟨g, 0, none⟩ = some (.int .i64 p)) (hl : l.length ≤ 1099511627776) (hbase : base ≤ w.heap.size)
    (h : ∀ v' w', IntRow w' base v' (l ++ [p]) → w.grownBy w' v.ownBlock → (v'.ownBlock = v.ownBlock ∨ v'.ownBlock = some w.heap.size) → K (a.put o.dst v') w') :
    if Region.wanted o (yielded ops a.tmps) = true then Oper.wp Try.prog o a w K Q else E := by
  obtain ⟨inf, hif, hz0, hz1, hz2⟩ := info_parts Try.infoInt
  refine step_append_src w hgd s x _ ho base 3 inf _ 1 8 Try.underlying33 hif hz0 hz1 hz2 rfl (by decide) v _ _ hs hown (some ⟨g, 0, none⟩) 1 c [.int .i64 p] hx ⟨rfl, (fun h => by cases h), ?_⟩ (by intro u hu; simp at hu; subst hu; rfl) (by unfold maxLen; omega) (by omega) hbase ?_
  · intro ad had j u hu
    obtain rfl := Option.some.inj had
    match j, hu with
    | 0, hu =>
      simp at hu
      subst hu
      rw [show (⟨g, 0, none⟩ : Addr).add 0 = ⟨g, 0, none⟩ from rfl]; exact hc
    | j + 1, hu => simp at hu
  · intro v' w' h1 h2 h3
    refine h v' w' ?_ h2 h3
    unfold IntRow
    rw [List.map_append, List.length_append]; exact h1
end
/-- The call returns a code in memory of its own, and whether it is one. -/
def RetCodeB (c : Code) (b : Bool) (w : World) (e : Ending) (w' : World) : Prop :=
  ∃ A2 n2 c2 A3 n3 c3 A4 n4 c4 F2 F3 F4, e = .returned (.tuple #[.agg #[.int .i64 c.1, .int .i64 c.2.1, .slice A2 n2 c2, .slice A3 n3 c3, .slice A4 n4 c4], .bool b]) ∧ OwnSl intR w' 3 F2 (.slice A2 n2 c2) c.2.2.1 ∧ OwnSl InsR w' 190 F3 (.slice A3 n3 c3) c.2.2.2.1 ∧ OwnSl RowR w' 196 F4 (.slice A4 n4 c4) c.2.2.2.2 ∧
    (F2 ++ (F3 ++ F4)).Nodup ∧ (∀ k, k ∈ F2 ++ (F3 ++ F4) → w.heap.size ≤ k) ∧ Below w.heap.size w w'
theorem RetCodeB.mk {w w' : World} {x0 x1 : Int} {ls : List Int} {li : List Ins} {lr : List Row} {b : Bool} {A2 A3 A4 : Option Addr} {n2 c2 n3 c3 n4 c4 : Nat} {b2 b3 b4 : Nat}
    (h2 : IntRow w' b2 (.slice A2 n2 c2) ls) (h3 : InsRow w' b3 (.slice A3 n3 c3) li) (h4 : RowRow w' b4 (.slice A4 n4 c4) lr) (i2 : ∀ x, x ∈ ls → I64 x) (i3 : ∀ x, x ∈ li → okI x) (i4 : ∀ x, x ∈ lr → I64 x.1 ∧ I64 x.2.1 ∧ I64 x.2.2)
    (l2 : w.heap.size ≤ b2) (l3 : w.heap.size ≤ b3) (l4 : w.heap.size ≤ b4) (d23 : ∀ g, (Value.slice A2 n2 c2).ownBlock = some g → ¬ (Value.slice A3 n3 c3).ownBlock = some g) (d24 : ∀ g, (Value.slice A2 n2 c2).ownBlock = some g → ¬ (Value.slice A4 n4 c4).ownBlock = some g) (d34 : ∀ g, (Value.slice A3 n3 c3).ownBlock = some g → ¬ (Value.slice A4 n4 c4).ownBlock = some g)
    (hb : Below w.heap.size w w') : RetCodeB (x0, x1, ls, li, lr) b w (.returned (.tuple #[.agg #[.int .i64 x0, .int .i64 x1, .slice A2 n2 c2, .slice A3 n3 c3, .slice A4 n4 c4], .bool b])) w' := by
  refine ⟨A2, n2, c2, A3, n3, c3, A4, n4, c4, _, _, _, rfl, h2.own i2, h3.own i3, h4.own i4, ?_, ?_, hb⟩
  · rw [List.nodup_append, List.nodup_append]
    have nd : ∀ o : Option Nat, o.toList.Nodup := fun o => by cases o <;> simp
    refine ⟨nd _, ⟨nd _, nd _, ?_⟩, ?_⟩
    · intro a ha b hb e
      subst e
      exact d34 a (by simpa using ha) (by simpa using hb)
    · intro a ha b hb e
      subst e
      rcases List.mem_append.1 hb with hb | hb
      · exact d23 a (by simpa using ha) (by simpa using hb)
      · exact d24 a (by simpa using ha) (by simpa using hb)
  · intro k hk
    rcases List.mem_append.1 hk with hk | hk
    · exact Nat.le_trans l2 (h2.lt k (by simpa using hk)).1
    · rcases List.mem_append.1 hk with hk | hk
      · exact Nat.le_trans l3 (h3.lt k (by simpa using hk)).1
      · exact Nat.le_trans l4 (h4.lt k (by simpa using hk)).1
theorem RetCodeB.none {w w' : World} (hb : Below w.heap.size w w') : RetCodeB (0, 0, [], [], []) false w (.returned (.tuple #[.agg #[.int .i64 0, .int .i64 0, .slice none 0 0, .slice none 0 0, .slice none 0 0], .bool false])) w' :=
  RetCodeB.mk (IntRow.nil_ _ w.heap.size) (InsRow.nil_ _ w.heap.size) (RowRow.nil_ _ w.heap.size) (fun _ h => by simp at h) (fun _ h => by simp at h) (fun _ h => by simp at h) (Nat.le_refl _) (Nat.le_refl _) (Nat.le_refl _) (fun _ h => by cases h) (fun _ h => by cases h) (fun _ h => by cases h) hb
end Go.Proofs.Ytkedpaopnnhinaa

/- A code that is built in a block of its own: its three rows. Printed by cstgen.py. Plain lemmas. -/
set_option linter.unusedVariables false
set_option linter.unusedSimpArgs false
set_option maxRecDepth 100000
namespace Go.Proofs.Ytkedpaopnnhinaa
open Go.RowKit
structure CSt (w : World) (C : Nat) (x0 x1 : Int) (v2 : Value) (ls : List Int) (v3 : Value) (li : List Ins) (v4 : Value) (lr : List Row) : Prop where
  k0 : w.cell? ⟨C, 0, none⟩ = some (.int .i64 x0)
  k1 : w.cell? ⟨C, 1, none⟩ = some (.int .i64 x1)
  k2 : w.cell? ⟨C, 2, none⟩ = some v2
  k3 : w.cell? ⟨C, 3, none⟩ = some v3
  k4 : w.cell? ⟨C, 4, none⟩ = some v4
  kf : ∀ j, w.frozen? ⟨C, j, none⟩ = false
  r2 : IntRow w (C + 1) v2 ls
  r3 : InsRow w (C + 1) v3 li
  r4 : RowRow w (C + 1) v4 lr
  d23 : ∀ g, v2.ownBlock = some g → ¬ v3.ownBlock = some g
  d24 : ∀ g, v2.ownBlock = some g → ¬ v4.ownBlock = some g
  d34 : ∀ g, v3.ownBlock = some g → ¬ v4.ownBlock = some g
section
variable {w wm w' : World} {C : Nat} {x0 x1 : Int} {v2 v3 v4 : Value} {ls : List Int} {li : List Ins} {lr : List Row}
theorem CSt.lt (h : CSt w C x0 x1 v2 ls v3 li v4 lr) : C < w.heap.size := World.block_lt_of_cell? w _ h.k0
theorem CSt.frame (h : CSt w C x0 x1 v2 ls v3 li v4 lr) (hk : ∀ k, C ≤ k → k < w.heap.size → (k = C ∨ v2.ownBlock = some k ∨ v3.ownBlock = some k ∨ v4.ownBlock = some k) → w'.heap[k]? = w.heap[k]?) : CSt w' C x0 x1 v2 ls v3 li v4 lr := by
  have hC := hk C (Nat.le_refl _) h.lt (Or.inl rfl)
  exact ⟨cell_same hC h.k0, cell_same hC h.k1, cell_same hC h.k2, cell_same hC h.k3, cell_same hC h.k4, fun j => (World.frozen?_of_block (w := w) (a := ⟨C, j, none⟩) hC).trans (h.kf j),
    h.r2.keep (fun k e => hk k (by have := (h.r2.lt k e).1; omega) (h.r2.lt k e).2 (Or.inr (Or.inl e))), h.r3.keep (fun k e => hk k (by have := (h.r3.lt k e).1; omega) (h.r3.lt k e).2 (Or.inr (Or.inr (Or.inl e)))), h.r4.keep (fun k e => hk k (by have := (h.r4.lt k e).1; omega) (h.r4.lt k e).2 (Or.inr (Or.inr (Or.inr e)))), h.d23, h.d24, h.d34⟩
theorem CSt.below (h : CSt w C x0 x1 v2 ls v3 li v4 lr) (hb : Below w.heap.size w w') : CSt w' C x0 x1 v2 ls v3 li v4 lr := h.frame (fun k _ hk _ => hb.block k hk)
/-- A code as it is laid. -/
theorem CSt.new (w : World) {C : Nat} (hC : C = w.heap.size) (x0 x1 : Int) : CSt (w.alloc (.cells #[.int .i64 x0, .int .i64 x1, .slice none 0 0, .slice none 0 0, .slice none 0 0] 44)) C x0 x1 (.slice none 0 0) [] (.slice none 0 0) [] (.slice none 0 0) [] := by
  subst hC
  exact ⟨by simp [go_sem], by simp [go_sem], by simp [go_sem], by simp [go_sem], by simp [go_sem], fun j => by simp [go_sem], IntRow.nil_ _ _, InsRow.nil_ _ _, RowRow.nil_ _ _, (fun g hg => by cases hg), (fun g hg => by cases hg), (fun g hg => by cases hg)⟩
end

/-- Row 2 has grown. -/
theorem CSt.mid2 {w wm w' : World} {C : Nat} {x0 x1 : Int} {v2 v3 v4 : Value} {ls : List Int} {li : List Ins} {lr : List Row} (h : CSt w C x0 x1 v2 ls v3 li v4 lr) (hm : Below w.heap.size w wm) (hg : wm.grownBy w' v2.ownBlock) :
    w'.cell? ⟨C, 0, none⟩ = some (.int .i64 x0) ∧ w'.cell? ⟨C, 1, none⟩ = some (.int .i64 x1) ∧ w'.cell? ⟨C, 2, none⟩ = some v2 ∧ w'.cell? ⟨C, 3, none⟩ = some v3 ∧ w'.cell? ⟨C, 4, none⟩ = some v4 ∧ ∀ j, w'.frozen? ⟨C, j, none⟩ = false := by
  have hC : w'.heap[C]? = w.heap[C]? := (grown_block hg (b := C) (Nat.lt_of_lt_of_le h.lt hm.size) (fun e => by have := (h.r2.lt C e).1; omega)).trans (hm.block C h.lt)
  exact ⟨cell_same hC h.k0, cell_same hC h.k1, cell_same hC h.k2, cell_same hC h.k3, cell_same hC h.k4, fun j => (World.frozen?_of_block (w := w) (a := ⟨C, j, none⟩) hC).trans (h.kf j)⟩
theorem CSt.put2 {w wm w' : World} {C : Nat} {x0 x1 : Int} {v2 v3 v4 u : Value} {ls : List Int} {li : List Ins} {lr : List Row} {l' : List Int} (h : CSt w C x0 x1 v2 ls v3 li v4 lr) (hm : Below w.heap.size w wm) (hg : wm.grownBy w' v2.ownBlock) (hr : IntRow w' (C + 1) u l') (hat : u.ownBlock = v2.ownBlock ∨ u.ownBlock = some wm.heap.size) :
    CSt (w'.setCell ⟨C, 2, none⟩ u) C x0 x1 u l' v3 li v4 lr := by
  obtain ⟨q0, q1, q2, q3, q4, qf⟩ := h.mid2 hm hg
  have hk : ∀ k, k < w.heap.size → ¬ k = C → ¬ v2.ownBlock = some k → (w'.setCell ⟨C, 2, none⟩ u).heap[k]? = w.heap[k]? := fun k h1 h2 h3 => (Below.heap_setCell _ _ _ _ h2).trans ((grown_block hg (Nat.lt_of_lt_of_le h1 hm.size) h3).trans (hm.block k h1))
  refine ⟨by simp [go_sem, q0], by simp [go_sem, q1], by simp [go_sem, q2], by simp [go_sem, q3], by simp [go_sem, q4], fun j => by simp [go_sem, qf], ?_, ?_, ?_, ?_, ?_, ?_⟩
  · exact hr.keep (fun k e => Below.heap_setCell _ _ _ _ (by have := (hr.lt k e).1; show k ≠ C; omega))
  · exact h.r3.keep (fun k e => hk k (h.r3.lt k e).2 (by have := (h.r3.lt k e).1; omega) (fun e2 => h.d23 k e2 e))
  · exact h.r4.keep (fun k e => hk k (h.r4.lt k e).2 (by have := (h.r4.lt k e).1; omega) (fun e2 => h.d24 k e2 e))
  · exact (fun g e e2 => by rcases hat with hat | hat; (· rw [hat] at e; exact h.d23 g e e2); (· rw [hat] at e; injection e with e; have := (h.r3.lt g e2).2; have := hm.size; omega))
  · exact (fun g e e2 => by rcases hat with hat | hat; (· rw [hat] at e; exact h.d24 g e e2); (· rw [hat] at e; injection e with e; have := (h.r4.lt g e2).2; have := hm.size; omega))
  · exact h.d34
/-- What else has turned. -/
theorem put2_fr {w wm w' : World} {C B : Nat} {v u : Value} {l : List Int} (hr : IntRow w (C + 1) v l) (hB : B ≤ C) (hBw : B ≤ w.heap.size) (hm : Below w.heap.size w wm) (hg : wm.grownBy w' v.ownBlock) : Below B w (w'.setCell ⟨C, 2, none⟩ u) :=
  ((hm.mono hBw).grown hg (Nat.le_trans hBw hm.size) (fun g e => by have := (hr.lt g e).1; omega)).setCell (p := ⟨C, 2, none⟩) hB u
/-- Row 3 has grown. -/
theorem CSt.mid3 {w wm w' : World} {C : Nat} {x0 x1 : Int} {v2 v3 v4 : Value} {ls : List Int} {li : List Ins} {lr : List Row} (h : CSt w C x0 x1 v2 ls v3 li v4 lr) (hm : Below w.heap.size w wm) (hg : wm.grownBy w' v3.ownBlock) :
    w'.cell? ⟨C, 0, none⟩ = some (.int .i64 x0) ∧ w'.cell? ⟨C, 1, none⟩ = some (.int .i64 x1) ∧ w'.cell? ⟨C, 2, none⟩ = some v2 ∧ w'.cell? ⟨C, 3, none⟩ = some v3 ∧ w'.cell? ⟨C, 4, none⟩ = some v4 ∧ ∀ j, w'.frozen? ⟨C, j, none⟩ = false := by
  have hC : w'.heap[C]? = w.heap[C]? := (grown_block hg (b := C) (Nat.lt_of_lt_of_le h.lt hm.size) (fun e => by have := (h.r3.lt C e).1; omega)).trans (hm.block C h.lt)
  exact ⟨cell_same hC h.k0, cell_same hC h.k1, cell_same hC h.k2, cell_same hC h.k3, cell_same hC h.k4, fun j => (World.frozen?_of_block (w := w) (a := ⟨C, j, none⟩) hC).trans (h.kf j)⟩
theorem CSt.put3 {w wm w' : World} {C : Nat} {x0 x1 : Int} {v2 v3 v4 u : Value} {ls : List Int} {li : List Ins} {lr : List Row} {l' : List Ins} (h : CSt w C x0 x1 v2 ls v3 li v4 lr) (hm : Below w.heap.size w wm) (hg : wm.grownBy w' v3.ownBlock) (hr : InsRow w' (C + 1) u l') (hat : u.ownBlock = v3.ownBlock ∨ u.ownBlock = some wm.heap.size) :
    CSt (w'.setCell ⟨C, 3, none⟩ u) C x0 x1 v2 ls u l' v4 lr := by
  obtain ⟨q0, q1, q2, q3, q4, qf⟩ := h.mid3 hm hg
  have hk : ∀ k, k < w.heap.size → ¬ k = C → ¬ v3.ownBlock = some k → (w'.setCell ⟨C, 3, none⟩ u).heap[k]? = w.heap[k]? := fun k h1 h2 h3 => (Below.heap_setCell _ _ _ _ h2).trans ((grown_block hg (Nat.lt_of_lt_of_le h1 hm.size) h3).trans (hm.block k h1))
  refine ⟨by simp [go_sem, q0], by simp [go_sem, q1], by simp [go_sem, q2], by simp [go_sem, q3], by simp [go_sem, q4], fun j => by simp [go_sem, qf], ?_, ?_, ?_, ?_, ?_, ?_⟩
  · exact h.r2.keep (fun k e => hk k (h.r2.lt k e).2 (by have := (h.r2.lt k e).1; omega) (fun e2 => h.d23 k e e2))
  · exact hr.keep (fun k e => Below.heap_setCell _ _ _ _ (by have := (hr.lt k e).1; show k ≠ C; omega))
  · exact h.r4.keep (fun k e => hk k (h.r4.lt k e).2 (by have := (h.r4.lt k e).1; omega) (fun e2 => h.d34 k e2 e))
  · exact (fun g e e2 => by rcases hat with hat | hat; (· rw [hat] at e2; exact h.d23 g e e2); (· rw [hat] at e2; injection e2 with e2; have := (h.r2.lt g e).2; have := hm.size; omega))
  · exact h.d24
  · exact (fun g e e2 => by rcases hat with hat | hat; (· rw [hat] at e; exact h.d34 g e e2); (· rw [hat] at e; injection e with e; have := (h.r4.lt g e2).2; have := hm.size; omega))
/-- What else has turned. -/
theorem put3_fr {w wm w' : World} {C B : Nat} {v u : Value} {l : List Ins} (hr : InsRow w (C + 1) v l) (hB : B ≤ C) (hBw : B ≤ w.heap.size) (hm : Below w.heap.size w wm) (hg : wm.grownBy w' v.ownBlock) : Below B w (w'.setCell ⟨C, 3, none⟩ u) :=
  ((hm.mono hBw).grown hg (Nat.le_trans hBw hm.size) (fun g e => by have := (hr.lt g e).1; omega)).setCell (p := ⟨C, 3, none⟩) hB u
/-- Row 4 has grown. -/
theorem CSt.mid4 {w wm w' : World} {C : Nat} {x0 x1 : Int} {v2 v3 v4 : Value} {ls : List Int} {li : List Ins} {lr : List Row} (h : CSt w C x0 x1 v2 ls v3 li v4 lr) (hm : Below w.heap.size w wm) (hg : wm.grownBy w' v4.ownBlock) :
    w'.cell? ⟨C, 0, none⟩ = some (.int .i64 x0) ∧ w'.cell? ⟨C, 1, none⟩ = some (.int .i64 x1) ∧ w'.cell? ⟨C, 2, none⟩ = some v2 ∧ w'.cell? ⟨C, 3, none⟩ = some v3 ∧ w'.cell? ⟨C, 4, none⟩ = some v4 ∧ ∀ j, w'.frozen? ⟨C, j, none⟩ = false := by
  have hC : w'.heap[C]? = w.heap[C]? := (grown_block hg (b := C) (Nat.lt_of_lt_of_le h.lt hm.size) (fun e => by have := (h.r4.lt C e).1; omega)).trans (hm.block C h.lt)
  exact ⟨cell_same hC h.k0, cell_same hC h.k1, cell_same hC h.k2, cell_same hC h.k3, cell_same hC h.k4, fun j => (World.frozen?_of_block (w := w) (a := ⟨C, j, none⟩) hC).trans (h.kf j)⟩
theorem CSt.put4 {w wm w' : World} {C : Nat} {x0 x1 : Int} {v2 v3 v4 u : Value} {ls : List Int} {li : List Ins} {lr : List Row} {l' : List Row} (h : CSt w C x0 x1 v2 ls v3 li v4 lr) (hm : Below w.heap.size w wm) (hg : wm.grownBy w' v4.ownBlock) (hr : RowRow w' (C + 1) u l') (hat : u.ownBlock = v4.ownBlock ∨ u.ownBlock = some wm.heap.size) :
    CSt (w'.setCell ⟨C, 4, none⟩ u) C x0 x1 v2 ls v3 li u l' := by
  obtain ⟨q0, q1, q2, q3, q4, qf⟩ := h.mid4 hm hg
  have hk : ∀ k, k < w.heap.size → ¬ k = C → ¬ v4.ownBlock = some k → (w'.setCell ⟨C, 4, none⟩ u).heap[k]? = w.heap[k]? := fun k h1 h2 h3 => (Below.heap_setCell _ _ _ _ h2).trans ((grown_block hg (Nat.lt_of_lt_of_le h1 hm.size) h3).trans (hm.block k h1))
  refine ⟨by simp [go_sem, q0], by simp [go_sem, q1], by simp [go_sem, q2], by simp [go_sem, q3], by simp [go_sem, q4], fun j => by simp [go_sem, qf], ?_, ?_, ?_, ?_, ?_, ?_⟩
  · exact h.r2.keep (fun k e => hk k (h.r2.lt k e).2 (by have := (h.r2.lt k e).1; omega) (fun e2 => h.d24 k e e2))
  · exact h.r3.keep (fun k e => hk k (h.r3.lt k e).2 (by have := (h.r3.lt k e).1; omega) (fun e2 => h.d34 k e e2))
  · exact hr.keep (fun k e => Below.heap_setCell _ _ _ _ (by have := (hr.lt k e).1; show k ≠ C; omega))
  · exact h.d23
  · exact (fun g e e2 => by rcases hat with hat | hat; (· rw [hat] at e2; exact h.d24 g e e2); (· rw [hat] at e2; injection e2 with e2; have := (h.r2.lt g e).2; have := hm.size; omega))
  · exact (fun g e e2 => by rcases hat with hat | hat; (· rw [hat] at e2; exact h.d34 g e e2); (· rw [hat] at e2; injection e2 with e2; have := (h.r3.lt g e).2; have := hm.size; omega))
/-- What else has turned. -/
theorem put4_fr {w wm w' : World} {C B : Nat} {v u : Value} {l : List Row} (hr : RowRow w (C + 1) v l) (hB : B ≤ C) (hBw : B ≤ w.heap.size) (hm : Below w.heap.size w wm) (hg : wm.grownBy w' v.ownBlock) : Below B w (w'.setCell ⟨C, 4, none⟩ u) :=
  ((hm.mono hBw).grown hg (Nat.le_trans hBw hm.size) (fun g e => by have := (hr.lt g e).1; omega)).setCell (p := ⟨C, 4, none⟩) hB u
/-- A row of the call's own is put where none was. -/
theorem CSt.new3 {w : World} {C : Nat} {x0 x1 : Int} {v2 v3 v4 u : Value} {ls : List Int} {li l' : List Ins} {lr : List Row} (h : CSt w C x0 x1 v2 ls v3 li v4 lr) (hr : InsRow w (C + 1) u l') (d2 : ∀ g, v2.ownBlock = some g → ¬ u.ownBlock = some g) (d4 : ∀ g, u.ownBlock = some g → ¬ v4.ownBlock = some g) : CSt (w.setCell ⟨C, 3, none⟩ u) C x0 x1 v2 ls u l' v4 lr := by
  have hk : ∀ k, ¬ k = C → (w.setCell ⟨C, 3, none⟩ u).heap[k]? = w.heap[k]? := fun k g => Below.heap_setCell _ _ _ _ g
  exact ⟨by simp [go_sem, h.k0], by simp [go_sem, h.k1], by simp [go_sem, h.k2], by simp [go_sem, h.k3], by simp [go_sem, h.k4], fun j => by simp [go_sem, h.kf], h.r2.keep (fun k e => hk k (by have := (h.r2.lt k e).1; omega)), hr.keep (fun k e => hk k (by have := (hr.lt k e).1; omega)), h.r4.keep (fun k e => hk k (by have := (h.r4.lt k e).1; omega)), d2, h.d24, d4⟩
theorem CSt.new4 {w : World} {C : Nat} {x0 x1 : Int} {v2 v3 v4 u : Value} {ls : List Int} {li : List Ins} {lr l' : List Row} (h : CSt w C x0 x1 v2 ls v3 li v4 lr) (hr : RowRow w (C + 1) u l') (d2 : ∀ g, v2.ownBlock = some g → ¬ u.ownBlock = some g) (d3 : ∀ g, v3.ownBlock = some g → ¬ u.ownBlock = some g) : CSt (w.setCell ⟨C, 4, none⟩ u) C x0 x1 v2 ls v3 li u l' := by
  have hk : ∀ k, ¬ k = C → (w.setCell ⟨C, 4, none⟩ u).heap[k]? = w.heap[k]? := fun k g => Below.heap_setCell _ _ _ _ g
  exact ⟨by simp [go_sem, h.k0], by simp [go_sem, h.k1], by simp [go_sem, h.k2], by simp [go_sem, h.k3], by simp [go_sem, h.k4], fun j => by simp [go_sem, h.kf], h.r2.keep (fun k e => hk k (by have := (h.r2.lt k e).1; omega)), h.r3.keep (fun k e => hk k (by have := (h.r3.lt k e).1; omega)), hr.keep (fun k e => hk k (by have := (hr.lt k e).1; omega)), h.d23, d2, d3⟩
/-- The call returns a code that is read. -/
def RetCodeS (c : Code) (w : World) (e : Ending) (w' : World) : Prop :=
  ∃ A2 n2 c2 A3 n3 c3 A4 n4 c4, e = .returned (.agg #[.int .i64 c.1, .int .i64 c.2.1, .slice A2 n2 c2, .slice A3 n3 c3, .slice A4 n4 c4]) ∧ Sl intR w' w.heap.size w'.heap.size A2 n2 c2 c.2.2.1 ∧ Sl InsR w' w.heap.size w'.heap.size A3 n3 c3 c.2.2.2.1 ∧ Sl RowR w' w.heap.size w'.heap.size A4 n4 c4 c.2.2.2.2 ∧ Below w.heap.size w w'

end Go.Proofs.Ytkedpaopnnhinaa
