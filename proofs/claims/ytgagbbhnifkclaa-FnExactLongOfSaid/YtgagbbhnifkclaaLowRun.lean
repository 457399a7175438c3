/- The run of a translation: what carries over from step to step. Plain lemmas. -/
import Derived.Test.YtgagbbhnifkclaaLowSt
set_option linter.unusedVariables false
set_option linter.unusedSimpArgs false
set_option maxRecDepth 100000
namespace Go.Proofs.Ytgagbbhnifkclaa
open Go.RowKit
/-- From world w on, where the row was v: the state is now so. -/
structure LowRun (w : World) (L : Nat) (c0 c1 c2 c3 c4 v : Value) (wk : World) (vk : Value) (xk : List Ins) : Prop where
  st : LowSt wk L c0 c1 c2 c3 c4 vk xk
  fr : Fr (L :: v.ownBlock.toList) w wk
  own : vk.ownBlock = v.ownBlock ∨ ∀ g, vk.ownBlock = some g → w.heap.size ≤ g
section
variable {w wk : World} {L : Nat} {c0 c1 c2 c3 c4 v vk : Value} {xk ys : List Ins}
theorem LowRun.start (h : LowSt w L c0 c1 c2 c3 c4 v xk) : LowRun w L c0 c1 c2 c3 c4 v w v xk := ⟨h, Fr.refl _ _, Or.inl rfl⟩
theorem LowRun.step {e : Ending} {r : Value} {w' : World} (h : LowRun w L c0 c1 c2 c3 c4 v wk vk xk) (k : RetLow L c0 c1 c2 c3 c4 vk ys r wk e w') : ∃ vn, e = .returned r ∧ LowRun w L c0 c1 c2 c3 c4 v w' vn ys := by
  obtain ⟨vn, rfl, st, fr, own⟩ := k
  exact ⟨vn, rfl, st, low_trans h.fr h.own fr, own_trans h.fr.size h.own own⟩
theorem LowRun.cell {B o : Nat} {u : Value} (h : LowRun w L c0 c1 c2 c3 c4 v wk vk xk) (hL : ¬ B = L) (hv : ¬ v.ownBlock = some B) (hc : w.cell? ⟨B, o, none⟩ = some u) : wk.cell? ⟨B, o, none⟩ = some u :=
  cell_fr h.fr (by simp only [List.mem_cons, not_or]; exact ⟨hL, by simpa using hv⟩) hc
theorem LowRun.sl {α : Type} {R : Rp α} {A : Option Addr} {n c : Nat} {l : List α} (h : LowRun w L c0 c1 c2 c3 c4 v wk vk xk) (hL : L ≤ w.heap.size) (hv : ∀ g, v.ownBlock = some g → L < g) (hs : Sl R w 0 L A n c l) : Sl R wk 0 L A n c l :=
  hs.fr h.fr hL fun k hk => by
    rcases List.mem_cons.1 hk with rfl | hk
    · exact Or.inr (Nat.le_refl _)
    · exact Or.inr (Nat.le_of_lt (hv k (by simpa using hk)))
theorem LowRun.below {w' : World} (h : LowRun w L c0 c1 c2 c3 c4 v wk vk xk) (hb : Below wk.heap.size wk w') : LowRun w L c0 c1 c2 c3 c4 v w' vk xk := ⟨h.st.keep hb, h.fr.trans (Fr.of_below hb), h.own⟩
theorem LowRun.drew (h : LowRun w L c0 c1 c2 c3 c4 v wk vk xk) : LowRun w L c0 c1 c2 c3 c4 v wk.drew vk xk := h.below (Below.drew (Below.refl _ _))
theorem LowRun.ret {r : Value} (h : LowRun w L c0 c1 c2 c3 c4 v wk vk xk) : RetLow L c0 c1 c2 c3 c4 v xk r w (.returned r) wk := ⟨vk, rfl, h.st, h.fr, h.own⟩
theorem LowRun.eq {ys : List Ins} (h : LowRun w L c0 c1 c2 c3 c4 v wk vk xk) (e : xk = ys) : LowRun w L c0 c1 c2 c3 c4 v wk vk ys := e ▸ h
/-- A call whose state was laid into a new block first. -/
theorem RetLow.up {w0 : World} {r : Value} {e : Ending} {o : Obj} (h : RetLow L c0 c1 c2 c3 c4 v ys r (w0.alloc o) e wk) : RetLow L c0 c1 c2 c3 c4 v ys r w0 e wk := by
  obtain ⟨vn, rfl, st, fr, own⟩ := h
  exact ⟨vn, rfl, st, Fr.trans (Fr.alloc (Fr.refl _ _) _) fr, own_later (by simp) own⟩
/-- The number of an instruction, to be put anew. -/
theorem LowRun.at_ {A : Option Addr} {n c : Nat} {a b : List Ins} {op q : Int} {i : Nat} (h : LowRun w L c0 c1 c2 c3 c4 v wk (.slice A n c) (a ++ ([(op, q)] ++ b))) (hi : a.length = i) :
    ∃ g, A = some ⟨g, 0, none⟩ ∧ n = i + 1 + b.length ∧ wk.cell? ⟨g, i * 2 + 1, none⟩ = some (.int .i64 q) ∧ wk.frozen? ⟨g, i * 2 + 1, none⟩ = false ∧ wk.cell? ⟨L, 5, none⟩ = some (.slice (some ⟨g, 0, none⟩) n c) ∧
      ∀ m, LowRun w L c0 c1 c2 c3 c4 v (wk.setCell ⟨g, i * 2 + 1, none⟩ (.int .i64 m)) (.slice A n c) (a ++ ([(op, m)] ++ b)) := by
  have hrow := h.st.row
  unfold InsRow at hrow
  have hlen : (a ++ ([(op, q)] ++ b)).length = i + 1 + b.length := by simp; omega
  have hil : i < (a ++ ([(op, q)] ++ b)).length := by omega
  rcases hrow.2 with ⟨e, h0⟩ | ⟨g, cap, cur, e, hg, hh, r⟩
  · omega
  injection e with e1 e2 e3
  subst e1 e2 e3
  have hat := hrow.cellAt (i * 2 + 1) (by omega)
  have hv : (encL insV (a ++ ([(op, q)] ++ b)))[i * 2 + 1]? = some (.int .i64 q) := by
    rw [encL_at insV_len _ i hil 1 (by decide)]
    have : (a ++ ([(op, q)] ++ b))[i] = (op, q) := by subst hi; simp
    rw [this]; rfl
  have hgl := h.st.row.lt g rfl
  refine ⟨g, rfl, hlen, hat.trans hv, hrow.frozenAt _, h.st.p5, fun m => ?_⟩
  have hnew := ins_patch hrow hil m
  have hset : (a ++ ([(op, q)] ++ b)).set i ((a ++ ([(op, q)] ++ b))[i].1, m) = a ++ ([(op, m)] ++ b) := by
    have : (a ++ ([(op, q)] ++ b))[i] = (op, q) := by subst hi; simp
    rw [this]; exact set_mid a b _ _ hi.symm
  rw [hset] at hnew
  have hl2 : (a ++ ([(op, m)] ++ b)).length = (a ++ ([(op, q)] ++ b)).length := by simp
  have hne : ¬ L = g := by omega
  have hk : (wk.setCell ⟨g, i * 2 + 1, none⟩ (.int .i64 m)).heap[L]? = wk.heap[L]? := Below.heap_setCell _ _ _ _ hne
  refine ⟨⟨cell_same hk h.st.p0, cell_same hk h.st.p1, cell_same hk h.st.p2, cell_same hk h.st.p3, cell_same hk h.st.p4, cell_same hk h.st.p5, fun j => by simpa using h.st.fz j, ?_⟩, ?_, h.own⟩
  · unfold InsRow; rw [hl2]; exact hnew
  · refine ⟨?_, ?_, ?_, ?_, ?_⟩
    · exact (show (wk.setCell ⟨g, i * 2 + 1, none⟩ (.int .i64 m)).os = wk.os from rfl).trans h.fr.os
    · exact (show (wk.setCell ⟨g, i * 2 + 1, none⟩ (.int .i64 m)).tape = wk.tape from rfl).trans h.fr.tape
    · exact (show (wk.setCell ⟨g, i * 2 + 1, none⟩ (.int .i64 m)).output = wk.output from rfl).trans h.fr.output
    · have := h.fr.size; simpa using this
    · intro k hk1 hk2
      have hkg : ¬ k = g := by
        rintro rfl
        rcases h.own with ho | ho
        · exact hk2 (List.mem_cons_of_mem _ (by rw [← ho]; simp [Value.ownBlock]))
        · have := ho k rfl; omega
      rw [Below.heap_setCell _ _ _ _ hkg]
      exact h.fr.block k hk1 hk2
end
end Go.Proofs.Ytgagbbhnifkclaa
