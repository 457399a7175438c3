/- A program is built anew. Walks of both sides. -/
import Derived.Test.YthdpkcmeepabjaaFoldPg
import Derived.Test.YthdpkcmeepabjaaOwnI
import Derived.Test.YthdpkcmeepabjaaRegCut
import Derived.Test.YthdpkcmeepabjaaCloneT
import Derived.Test.YthdpkcmeepabjaaTyPg
import Derived.Test.YthdpkcmeepabjaaKit1
import Derived.Deep.RegionHeld3
import Derived.Deep.CutRange
set_option linter.unusedVariables false
set_option linter.unusedSimpArgs false
set_option maxRecDepth 100000
namespace Go.Proofs.Ythdpkcmeepabjaa
open Go.RowKit
/-- The function under way: its block N, its body's row. -/
structure NxtSt (wP wx : World) (N : Nat) (x0 x1 : Int) (B2 : Option Addr) (p2 q2 : Nat) (body : List Int) : Prop where
  c0 : wx.cell? ⟨N, 0, none⟩ = some (.int .i64 x0)
  c1 : wx.cell? ⟨N, 1, none⟩ = some (.int .i64 x1)
  c2 : wx.cell? ⟨N, 2, none⟩ = some (.slice B2 p2 q2)
  c3 : wx.cell? ⟨N, 3, none⟩ = some (.slice none 0 0)
  fz : ∀ j, wx.frozen? ⟨N, j, none⟩ = false
  row : IntRow wx wP.heap.size (.slice B2 p2 q2) body
  nb : ¬ (Value.slice B2 p2 q2).ownBlock = some N
  le : wP.heap.size ≤ N
  bl : Below wP.heap.size wP wx
theorem four_cells {w : World} {b : Nat} {v0 v1 v2 v3 : Value} {t : TypeId} (h : w.heap[b]? = some (.cells #[v0, v1, v2, v3] t)) : w.cell? ⟨b, 0, none⟩ = some v0 ∧ w.cell? ⟨b, 1, none⟩ = some v1 ∧ w.cell? ⟨b, 2, none⟩ = some v2 ∧ w.cell? ⟨b, 3, none⟩ = some v3 :=
  ⟨by rw [cell_of_row _ _ _ _ _ _ h]; rfl, by rw [cell_of_row _ _ _ _ _ _ h]; rfl, by rw [cell_of_row _ _ _ _ _ _ h]; rfl, by rw [cell_of_row _ _ _ _ _ _ h]; rfl⟩
theorem Try.infoFunc2 : (Try.prog.info? 116).map (fun i => (i.zero, i.size, i.bytes)) = some (some (.agg #[.int .i64 0, .int .i64 0, .slice none 0 0, .slice none 0 0]), 4, 64) := by kernel_rfl
theorem Try.infoStmt2 : (Try.prog.info? 119).map (fun i => (i.zero, i.size, i.bytes)) = some (some (.agg #[.int .i64 0, .int .i64 0, .slice none 0 0, .slice none 0 0, .slice none 0 0]), 5, 88) := by kernel_rfl
theorem stmt_one {x0 x1 : Int} {A2 A3 A4 : Option Addr} {n2 c2 n3 c3 n4 c4 : Nat} : ∀ u ∈ ([.int .i64 x0, .int .i64 x1, .slice A2 n2 c2, .slice A3 n3 c3, .slice A4 n4 c4] : List Value), u.oneCell' = true := by
  intro u hu; simp at hu; rcases hu with rfl | rfl | rfl | rfl | rfl <;> rfl
theorem func_one {x0 x1 : Int} {A2 A3 : Option Addr} {n2 c2 n3 c3 : Nat} : ∀ u ∈ ([.int .i64 x0, .int .i64 x1, .slice A2 n2 c2, .slice A3 n3 c3] : List Value), u.oneCell' = true := by
  intro u hu; simp at hu; rcases hu with rfl | rfl | rfl | rfl <;> rfl
/-- Three rows, one behind the other: a statement in memory of its own. -/
theorem stmt_rows {w5 w6 w7 : World} {B5 B6 B7 : Nat} {x0 x1 : Int} {A2 A3 A4 : Option Addr} {n2 c2 n3 c3 n4 c4 : Nat} {s2 : List Tok} {s3 s4 : List Int} (r2 : TokRow w5 B5 (.slice A2 n2 c2) s2) (r3 : IntRow w6 B6 (.slice A3 n3 c3) s3) (r4 : IntRow w7 B7 (.slice A4 n4 c4) s4)
    (h6 : Below w5.heap.size w5 w6) (h7 : Below w6.heap.size w6 w7) (e6 : w5.heap.size ≤ B6) (e7 : w6.heap.size ≤ B7) (e5 : B5 ≤ w5.heap.size) (j2 : ∀ t, t ∈ s2 → okIns t) (j3 : ∀ t, t ∈ s3 → I64 t) (j4 : ∀ t, t ∈ s4 → I64 t) (i0 : I64 x0) (i1 : I64 x1) :
    ∃ Fx, StmtR.own w7 Fx [.int .i64 x0, .int .i64 x1, .slice A2 n2 c2, .slice A3 n3 c3, .slice A4 n4 c4] (x0, x1, s2, s3, s4) ∧ ∀ k, k ∈ Fx → B5 ≤ k ∧ k < w7.heap.size := by
  have z6 := h6.size
  have z7 := h7.size
  have y2 := World.ownsRow.lt r2
  have y3 := World.ownsRow.lt r3
  have y4 := World.ownsRow.lt r4
  have o2 : OwnSl TokR w7 202 (Value.slice A2 n2 c2).ownBlock.toList (.slice A2 n2 c2) s2 := own_flat (ownsRow_below (ownsRow_below r2 h6) h7) (fun x hx => tok_own (j2 x hx))
  have o3 : OwnSl intR w7 3 (Value.slice A3 n3 c3).ownBlock.toList (.slice A3 n3 c3) s3 := own_ints (r3.below h7) j3
  have o4 : OwnSl intR w7 3 (Value.slice A4 n4 c4).ownBlock.toList (.slice A4 n4 c4) s4 := own_ints r4 j4
  refine ⟨_, Stmt_own o2 o3 o4 i0 i1 ?_, ?_⟩
  · rw [List.nodup_append, List.nodup_append]
    have nd : ∀ o : Option Nat, o.toList.Nodup := fun o => by cases o <;> simp
    refine ⟨nd _, ⟨nd _, nd _, ?_⟩, ?_⟩
    · intro a ha b hb e
      subst e
      have := y3 a (by simpa using ha)
      have := y4 a (by simpa using hb)
      omega
    · intro a ha b hb e
      subst e
      have := y2 a (by simpa using ha)
      rcases List.mem_append.1 hb with hb | hb
      · have := y3 a (by simpa using hb); omega
      · have := y4 a (by simpa using hb); omega
  · intro k hk
    rcases List.mem_append.1 hk with hk | hk
    · have := y2 k (by simpa using hk); omega
    · rcases List.mem_append.1 hk with hk | hk
      · have := y3 k (by simpa using hk); omega
      · have := y4 k (by simpa using hk); omega
theorem cell_keep {w w' : World} {b o : Nat} {u : Value} (hk : w'.heap[b]? = w.heap[b]?) (h : w.cell? ⟨b, o, none⟩ = some u) : w'.cell? ⟨b, o, none⟩ = some u := (World.cell?_of_block (w := w) (a := ⟨b, o, none⟩) hk).trans h
theorem fr_below {F : List Nat} {M : Nat} {a b c : World} (h : Fr F a b) (k : Below M b c) (hM : a.heap.size ≤ M) : Fr F a c := ⟨k.os.trans h.os, k.tape.trans h.tape, k.output.trans h.output, Nat.le_trans h.size k.size, fun i hi hn => (k.block i (Nat.lt_of_lt_of_le hi hM)).trans (h.block i hi hn)⟩
/-- One statement more. -/
theorem step_stmt1 {ops : Array Oper} {o : Oper} {a : Act} {w w7 : World} {K : Act → World → Prop} {Q : Exit → Act → World → Prop} {E : Prop} (hgd : o.guard = none) (s x : Operand)
    (ho : o.op = .call { callee := .builtin .append, args := #[s, x], argTypes := #[114, 114] })
    (v : Value) (hs : a.eval s = v) (X : Nat) (hx : a.eval x = .slice (some ⟨X, 0, none⟩) 1 1) (x0 x1 : Int) (A2 A3 A4 : Option Addr) (n2 c2 n3 c3 n4 c4 : Nat) (hw : Below w7.heap.size w7 w) (hX : w.heap[X]? = some (.cells #[.int .i64 x0, .int .i64 x1, .slice A2 n2 c2, .slice A3 n3 c3, .slice A4 n4 c4] 119))
    (M : Nat) (hN : M ≤ w7.heap.size) (ls : List Stmt) (Fs : List Nat) (hown : OwnSl StmtR w7 119 Fs v ls) (hFs : ∀ k, k ∈ Fs → M ≤ k) (hl : ls.length ≤ 1048576) (d : Stmt) (Fx : List Nat) (hd : StmtR.own w7 Fx [.int .i64 x0, .int .i64 x1, .slice A2 n2 c2, .slice A3 n3 c3, .slice A4 n4 c4] d) (hdj : ∀ k, k ∈ Fx → k ∉ Fs) (hFx : ∀ k, k ∈ Fx → M ≤ k)
    (h : ∀ A' n' c' w' F', OwnSl StmtR w' 119 F' (.slice A' n' c') (ls ++ [d]) → (∀ k, k ∈ F' → M ≤ k) → Hid (∀ b, b < w7.heap.size → ¬ v.ownBlock = some b → w'.heap[b]? = w7.heap[b]?) → Below M w7 w' → w7.heap.size ≤ w'.heap.size → K (a.put o.dst (.slice A' n' c')) w') :
    if Region.wanted o (yielded ops a.tmps) = true then Oper.wp Try.prog o a w K Q else E := by
  obtain ⟨ins, his, hs0, hs1, hs2⟩ := info_parts Try.infoStmt2
  have hnew : ∀ j u, ([.int .i64 x0, .int .i64 x1, .slice A2 n2 c2, .slice A3 n3 c3, .slice A4 n4 c4] : List Value)[j]? = some u → w.cell? ((⟨X, 0, none⟩ : Addr).add j) = some u := by
    intro j u hu
    have hadd : (⟨X, 0, none⟩ : Addr).add j = ⟨X, j, none⟩ := by unfold Addr.add; simp; omega
    rw [hadd, cell_of_row _ _ _ _ _ _ hX]
    simpa using hu
  have hlt := StmtR.ownLt hd
  refine step_own1 w hgd s x _ ho StmtR 119 ins (.agg #[.int .i64 0, .int .i64 0, .slice none 0 0, .slice none 0 0, .slice none 0 0]) 5 88 Try.underlying114 his hs0 hs1 hs2 rfl rfl (by decide) v ls.length ls Fs hs rfl (hown.below hw) _ 1 _ d Fx hx hnew (StmtR.ownKeep (fun k hk => hw.block k (hlt k hk)) hd) stmt_one hdj (by omega) (by decide) ?_
  intro v' w' F' h1 h2 h3
  obtain ⟨A', n', c', rfl, _⟩ := h1.form
  have hvB : ∀ g, v.ownBlock = some g → M ≤ g := fun g hg => hFs g (hown.ownB g hg)
  have hws := hw.size
  have hk : ∀ b, b < w7.heap.size → ¬ v.ownBlock = some b → w'.heap[b]? = w7.heap[b]? := fun b h4 h5 => (h2.block b (by omega) (fun e => h5 e.symm)).trans (hw.block b h4)
  exact h A' n' c' w' F' h1 (fun k hk => by rcases h3 k hk with h4 | h4 | h4; exact hFs k h4; exact hFx k h4; omega) (Lib.hid hk)
    ⟨h2.os.trans hw.os, h2.tape.trans hw.tape, h2.output.trans hw.output, by have := h2.size; omega, fun b hb => hk b (by omega) (fun e => by have := hvB b e; omega)⟩ (by have := h2.size; omega)
def RetPgA (l : List Func) (w : World) (e : Ending) (w' : World) : Prop :=
  ∃ A0 n0 c0 F0, e = .returned (.agg #[.slice A0 n0 c0]) ∧ OwnSl FuncR w' 116 F0 (.slice A0 n0 c0) l ∧ (∀ k, k ∈ F0 → w.heap.size ≤ k) ∧ Below w.heap.size w w'
set_option maxHeartbeats 8000000 in
theorem implCloneProg (w : World) (lo hi : Nat) (A : Option Addr) (n c : Nat) (fs : List Func) (h : Sl FuncR w lo hi A n c fs) (hh : hi ≤ w.heap.size) (hm : mszLFunc fs ≤ 1048576) :
    Calls Try.prog 87 #[.agg #[.slice A n c]] w (RetPgA fs w) := by
  have e1 := Lib.hid h.lenEq
  have hml := mszLFunc_len fs
  have hn : n ≤ 1048576 := by have := e1.out; omega
  obtain ⟨inf, hif, hz0, hz1, hz2⟩ := info_parts Try.infoFunc2
  have HIF := Lib.hid hif
  have HZ0 := Lib.hid hz0
  have HZ1 := Lib.hid hz1
  have HZ2 := Lib.hid hz2
  obtain ⟨ins, his, hs0, hs1, hs2⟩ := info_parts Try.infoStmt2
  have HIS := Lib.hid his
  have HS0 := Lib.hid hs0
  have HS1 := Lib.hid hs1
  have HS2 := Lib.hid hs2
  clear hif hz0 hz1 hz2 his hs0 hs1 hs2 hml
  go_enter Try.func87, Try.ntmps87
  go_wp2_with fail
  obtain ⟨w2, hw2⟩ : ∃ w2, w2 = ((w.alloc (.cells #[.slice A n c] 63)).alloc (.cells #[.slice none 0 0] 63)).alloc (.cells #[.slice none 0 0] 63) := ⟨_, rfl⟩
  have hR0 : w2.cell? ⟨w.heap.size + 1, 0, none⟩ = some (.slice none 0 0) := by rw [hw2]; simp [go_sem]
  have hRf : w2.frozen? ⟨w.heap.size + 1, 0, none⟩ = false := by rw [hw2]; simp [go_sem]
  have hO0 : w2.cell? ⟨w.heap.size + 1 + 1, 0, none⟩ = some (.slice none 0 0) := by rw [hw2]; simp [go_sem]
  have hOf : w2.frozen? ⟨w.heap.size + 1 + 1, 0, none⟩ = false := by rw [hw2]; simp [go_sem]
  have hx2 : Below w.heap.size w w2 := by rw [hw2]; (repeat (first | with_reducible exact Below.refl _ _ | with_reducible assumption | with_reducible refine below_alloc ?_ _ | ((with_reducible refine Below.setCell ?_ ?_ _); rotate_left; (· first | exact Nat.le_refl _ | (simp; done) | (simp; omega))) | with_reducible refine below_drewN ?_ _ | with_reducible refine Below.drew ?_ | with_reducible refine below_then ?_ (by with_reducible assumption)))
  obtain ⟨O, hO⟩ : ∃ O, O = w.heap.size + 1 + 1 := ⟨_, rfl⟩
  replace h := h.below hx2 hh
  have hhO : hi ≤ O := by omega
  rw [← hw2]
  rw [← hO]
  rw [← hO] at hO0 hOf
  have hOa : w.heap.size + 1 < O := by omega
  clear hO
  clear hw2
  go_loopw [12] (fun i wr => ∃ (k : Nat) (v : Value) (F : List Nat), k ≤ n ∧ i = .int .i64 k ∧ OwnSl FuncR wr 116 F v ((fs.take k).map (fun f => f)) ∧ (∀ j, j ∈ F → O < j) ∧ wr.cell? ⟨O, 0, none⟩ = some v ∧ wr.frozen? ⟨O, 0, none⟩ = false ∧ Below O w2 wr) (fun i _ => n - (intOf i).toNat)
  case atStart => exact ⟨0, .slice none 0 0, [], Nat.zero_le _, rfl, OwnSl.nil_ _ _ _, by simp, hO0, hOf, by exact Below.refl _ _⟩
  case round =>
    clear hO0 hOf
    obtain ⟨k, v, F, hk, rfl, ho, hF, kx, kfx, hb⟩ := hrel
    have hzx : O < wr.heap.size := World.block_lt_of_cell? wr _ kx
    by_cases hlt : k < n
    · obtain ⟨bp, op, x0, x1, Ab, nb, cb, body, B, m, d, ss, rfl, _, _, hl0, i0, i1, hbd, hs, d0, d1, d2, d3⟩ := Func_at (h.below hb hhO) hlt
      have hkl : k < fs.length := by have := e1.out; omega
      have hsz := mszFunc_at hkl
      rw [hl0] at hsz
      unfold mszFunc at hsz
      simp only at hsz
      have hls := mszLStmt_len ss
      have hm4 : m ≤ 1048576 := by have := hs.lenEq; omega
      have hb4 : nb ≤ 1048576 := by have := hbd.lenEq; omega
      have HS := Lib.hid (take_mapg_succ (fun f => f) hkl hl0)
      have hlen := Lib.hid (show ((fs.take k).map (fun f => f)).length = k by simp; omega)
      have HSZ := Lib.hid hsz
      have HB := Lib.hid (sl_ints_ok hbd)
      obtain ⟨ls, hls0⟩ : ∃ ls, (fs.take k).map (fun f => f) = ls := ⟨_, rfl⟩
      rw [hls0] at ho hlen HS
      clear hl0 hls0 hsz hls
      go_wp2_with fail
      obtain ⟨wP, hwP⟩ : ∃ wP, wP = wr.alloc (.cells #[.int .i64 x0, .int .i64 x1, .slice Ab nb cb, .slice B m d] 116) := ⟨_, rfl⟩
      have hxP : Below wr.heap.size wr wP := by rw [hwP]; exact Below.alloc (Below.refl _ _) (Nat.le_refl _) _
      have hzP : wP.heap.size = wr.heap.size + 1 := by rw [hwP]; simp
      have hSP := Lib.hid (show ∀ V, Below wP.heap.size wP V → V.cell? ⟨wr.heap.size, 0, none⟩ = some (.int .i64 x0) ∧ V.cell? ⟨wr.heap.size, 1, none⟩ = some (.int .i64 x1) ∧ V.cell? ⟨wr.heap.size, 2, none⟩ = some (.slice Ab nb cb) ∧ V.cell? ⟨wr.heap.size, 3, none⟩ = some (.slice B m d) from fun V hV => by
        refine ⟨below_cell hV ?_, below_cell hV ?_, below_cell hV ?_, below_cell hV ?_⟩ <;> (rw [hwP]; simp [go_sem]))
      have hbdP := hbd.below hxP (by omega)
      have hsP := hs.below hxP (by omega)
      have hhP : hi ≤ wP.heap.size := by omega
      rw [← hwP]
      clear hwP d0 d1 d2 d3
      go_cut [6, 12] from 12 to 57 (fun p i wx => i = .int .i64 k ∧ ∃ N B2 p2 q2, p = .pointer (some ⟨N, 0, none⟩) ∧ NxtSt wP wx N x0 x1 B2 p2 q2 body)
      case first =>
        go_region_held3 (fun V => V.cell? ⟨wr.heap.size, 0, none⟩ = some (.int .i64 x0) ∧ V.cell? ⟨wr.heap.size, 1, none⟩ = some (.int .i64 x1) ∧ V.cell? ⟨wr.heap.size, 2, none⟩ = some (.slice Ab nb cb) ∧ V.cell? ⟨wr.heap.size, 3, none⟩ = some (.slice B m d)) (first | exact hSP.out _ (show Below wP.heap.size wP _ by (repeat (first | with_reducible exact Below.refl _ _ | with_reducible assumption | with_reducible refine below_alloc ?_ _ | ((with_reducible refine Below.setCell ?_ ?_ _); rotate_left; (· first | exact Nat.le_refl _ | (simp; done) | (simp; omega))) | with_reducible refine below_drewN ?_ _ | with_reducible refine Below.drew ?_ | with_reducible refine below_then ?_ (by with_reducible assumption)))))
          (first
            | (go_at_call 142; ((with_reducible refine (cloneIntsR _ lo hi Ab nb cb body (hbdP.below (show Below wP.heap.size wP _ by (repeat (first | with_reducible exact Below.refl _ _ | with_reducible assumption | with_reducible refine below_alloc ?_ _ | ((with_reducible refine Below.setCell ?_ ?_ _); rotate_left; (· first | exact Nat.le_refl _ | (simp; done) | (simp; omega))) | with_reducible refine below_drewN ?_ _ | with_reducible refine Below.drew ?_ | with_reducible refine below_then ?_ (by with_reducible assumption)))) hhP) (by first | omega | (simp; done) | (simp; omega)) hb4).mono ?_); rintro e w5 ⟨v5, rfl, r5, k5⟩; have b5 : Below wP.heap.size wP w5 := (by (repeat (first | with_reducible exact Below.refl _ _ | with_reducible assumption | with_reducible refine below_alloc ?_ _ | ((with_reducible refine Below.setCell ?_ ?_ _); rotate_left; (· first | exact Nat.le_refl _ | (simp; done) | (simp; omega))) | with_reducible refine below_drewN ?_ _ | with_reducible refine Below.drew ?_ | with_reducible refine below_then ?_ (by with_reducible assumption)))); have z5 := b5.size; obtain ⟨B2, p2, q2, rfl, m5⟩ := r5.form; clear m5; obtain ⟨hcE, hfE⟩ := bcell k5)))
        all_goals
          have y5 := World.ownsRow.lt r5
          have yk := k5.size
          simp only [size_alloc, heap_drew] at y5 yk
          go_wp2_with fail
          go_meet
          case rel =>
            refine ⟨rfl, _, _, _, _, rfl, by simp [go_sem, hcE, hfE, hzP], by simp [go_sem, hcE, hfE, hzP], by simp [go_sem, hcE, hfE, hzP], by simp [go_sem, hcE, hfE, hzP], fun j => by simp [go_sem, hcE, hfE, hzP], (r5.keepR (fun k h1 h2 _ => ?_)).mono (by simp only [size_alloc, heap_drew]; omega), fun e => by (have := y5 _ e; omega), by first | omega | (simp; done) | (simp; omega), by (repeat (first | with_reducible exact Below.refl _ _ | with_reducible assumption | with_reducible refine below_alloc ?_ _ | ((with_reducible refine Below.setCell ?_ ?_ _); rotate_left; (· first | exact Nat.le_refl _ | (simp; done) | (simp; omega))) | with_reducible refine below_drewN ?_ _ | with_reducible refine Below.drew ?_ | with_reducible refine below_then ?_ (by with_reducible assumption)))⟩
            simp only [size_alloc, heap_drew] at h1
            first
              | with_reducible exact alloc_lt h2
              | (refine (show Fr [wP.heap.size] w5 _ by rw [hzP]; (repeat (first | with_reducible exact Fr.refl _ _ | with_reducible assumption | ((with_reducible refine Fr.setCell ?_ ?_ _); rotate_left; (· first | (simp; done) | assumption | (simp; assumption))) | with_reducible refine Fr.drewN ?_ _ | with_reducible refine Fr.drew ?_ | with_reducible refine Fr.alloc ?_ _ | with_reducible refine Fr.trans ?_ (Fr.of_below (by with_reducible assumption))))).block k h2 ?_; simp only [List.mem_singleton]; omega)
      case rest =>
        obtain ⟨rfl, N, B2, p2, q2, rfl, hX⟩ := hcut
        obtain ⟨g0, g1, g2, g3⟩ := hSP.out wc hX.bl
        have hNC : N < wc.heap.size := World.block_lt_of_cell? wc _ hX.c0
        have hPN := hX.le
        have n0 := hX.c0
        have n1 := hX.c1
        have n2 := hX.c2
        have n3 := hX.c3
        have nf := hX.fz
        have hsC := hsP.below hX.bl hhP
        have hwcP := hX.bl.size
        have hxC := below_then hxP hX.bl
        have kxc := below_cell hxC kx
        have kfc := below_frozen hxC hzx kfx
        have hoC := ho.below hxC
        have hbc : Below O w2 wc := hb.trans (hxC.mono (by omega))
        have hFw := ho.lt
        clear g0 g1 g2 kx kfx
        go_wp2_with fail
        go_loopw [27] (fun i wr => ∃ (j : Nat) (vs : Value) (Fs : List Nat), j ≤ m ∧ i = .int .i64 j ∧ OwnSl StmtR wr 119 Fs vs ((ss.take j).map (fun f => f)) ∧ (∀ k, k ∈ Fs → wc.heap.size ≤ k) ∧ wr.cell? ⟨N, 3, none⟩ = some vs ∧ wr.cell? ⟨N, 0, none⟩ = some (.int .i64 x0) ∧ wr.cell? ⟨N, 1, none⟩ = some (.int .i64 x1) ∧ wr.cell? ⟨N, 2, none⟩ = some (.slice B2 p2 q2) ∧ (∀ j, wr.frozen? ⟨N, j, none⟩ = false) ∧ Fr [N] wc wr) (fun i _ => m - (intOf i).toNat)
        case atStart => exact ⟨0, .slice none 0 0, [], Nat.zero_le _, rfl, OwnSl.nil_ _ _ _, by simp, n3, n0, n1, n2, nf, Fr.refl _ _⟩
        case round =>
          clear n0 n1 n2 n3 nf g3
          obtain ⟨j, vs, Fs, hj, rfl, hos, hFs, n3, n0, n1, n2, nf, hf⟩ := hrel
          have hfz := hf.size
          by_cases hjm : j < m
          · obtain ⟨bq, oq, y0, y1, A2, m2, d2, ex, A3, m3, d3, th, A4, m4, d4, el, rfl, _, _, hl1, k0, k1, s2, s3, s4, f0, f1, f2, f3, f4⟩ := Stmt_at (hsC.fr hf (by omega) (by simp; omega)) hjm
            have hjl : j < ss.length := by have := hsC.lenEq; omega
            have hmz := mszStmt_at hjl
            rw [hl1] at hmz
            unfold mszStmt at hmz
            simp only at hmz
            have hSZ := HSZ.out
            have hm2 : m2 ≤ 1048576 := by have := s2.lenEq; omega
            have hm3 : m3 ≤ 1048576 := by have := s3.lenEq; omega
            have hm4' : m4 ≤ 1048576 := by have := s4.lenEq; omega
            have e2 := sl_toks_ok s2
            have e3 := sl_ints_ok s3
            have e4 := sl_ints_ok s4
            have E2 := Lib.hid e2
            have E3 := Lib.hid e3
            have E4 := Lib.hid e4
            have HT := Lib.hid (take_mapg_succ (fun f => f) hjl hl1)
            have HTL := Lib.hid (show ((ss.take j).map (fun f => f)).length ≤ 1048576 by rw [List.length_map, List.length_take]; omega)
            obtain ⟨lt, hlt0⟩ : ∃ lt, (ss.take j).map (fun f => f) = lt := ⟨_, rfl⟩
            rw [hlt0] at hos HT HTL
            clear hl1 hmz hSZ e2 e3 e4 hlt0
            go_wp2_with fail
            obtain ⟨wS, hwS⟩ : ∃ wS, wS = wr.alloc (.cells #[.int .i64 y0, .int .i64 y1, .slice A2 m2 d2, .slice A3 m3 d3, .slice A4 m4 d4] 119) := ⟨_, rfl⟩
            have hxS : Below wr.heap.size wr wS := by rw [hwS]; exact Below.alloc (Below.refl _ _) (Nat.le_refl _) _
            have hzS : wS.heap.size = wr.heap.size + 1 := by rw [hwS]; simp
            have hSS := Lib.hid (show ∀ V, Below wS.heap.size wS V → V.cell? ⟨wr.heap.size, 0, none⟩ = some (.int .i64 y0) ∧ V.cell? ⟨wr.heap.size, 1, none⟩ = some (.int .i64 y1) ∧ V.cell? ⟨wr.heap.size, 2, none⟩ = some (.slice A2 m2 d2) ∧ V.cell? ⟨wr.heap.size, 3, none⟩ = some (.slice A3 m3 d3) ∧ V.cell? ⟨wr.heap.size, 4, none⟩ = some (.slice A4 m4 d4) from fun V hV => by
              refine ⟨below_cell hV ?_, below_cell hV ?_, below_cell hV ?_, below_cell hV ?_, below_cell hV ?_⟩ <;> (rw [hwS]; simp [go_sem]))
            replace s2 := s2.below hxS (by omega)
            replace s3 := s3.below hxS (by omega)
            replace s4 := s4.below hxS (by omega)
            have hhS : hi ≤ wS.heap.size := by omega
            have nS3 := below_cell hxS n3
            have hoS := hos.below hxS
            have hlF := hos.lt
            have hNQ : ¬ N = wr.heap.size := by omega
            rw [← hwS]
            clear hwS f0 f1 f2 f3 f4
            refine wp_region_noPanic ?_
            refine wp_region_cut (S := (fun V => V.cell? ⟨N, 3, none⟩ = some vs ∧ V.cell? ⟨wr.heap.size, 0, none⟩ = some (.int .i64 y0) ∧ V.cell? ⟨wr.heap.size, 1, none⟩ = some (.int .i64 y1) ∧ V.cell? ⟨wr.heap.size, 2, none⟩ = some (.slice A2 m2 d2) ∧ V.cell? ⟨wr.heap.size, 3, none⟩ = some (.slice A3 m3 d3) ∧ V.cell? ⟨wr.heap.size, 4, none⟩ = some (.slice A4 m4 d4))) 19 (by kernel_rfl) (by kernel_rfl) (⟨nS3, hSS.out _ (show Below wS.heap.size wS _ by (repeat (first | with_reducible exact Below.refl _ _ | with_reducible assumption | with_reducible refine below_alloc ?_ _ | ((with_reducible refine Below.setCell ?_ ?_ _); rotate_left; (· first | exact Nat.le_refl _ | (simp; done) | (simp; omega))) | with_reducible refine below_drewN ?_ _ | with_reducible refine Below.drew ?_ | with_reducible refine below_then ?_ (by with_reducible assumption))))⟩) (fun hR0 => ?_)
            simp only [headOps, List.take_succ_cons, List.take_zero]
            refine wpAnyH_take (i := 0) (v := ?_) rfl (by kernel_rfl) (by kernel_rfl) (by kernel_rfl) (fun _ _ _ h => h) (Or.inl ⟨by rfl, ?_⟩) (by assumption) ?_
            rotate_left 1
            · intro w hSw; (try dsimp only at hSw); go_simp; (try with_reducible rfl)
            try simp only [Act.put, List.getElem_toArray, List.getElem_cons_zero, List.getElem_cons_succ, List.setIfInBounds_toArray, List.set_cons_zero, List.set_cons_succ]
            refine wpAnyH_take (i := 1) (v := ?_) rfl (by kernel_rfl) (by kernel_rfl) (by kernel_rfl) (fun _ _ _ h => h) (Or.inl ⟨by rfl, ?_⟩) (by assumption) ?_
            rotate_left 1
            · intro w hSw; (try dsimp only at hSw); go_simp; (try with_reducible rfl)
            try simp only [Act.put, List.getElem_toArray, List.getElem_cons_zero, List.getElem_cons_succ, List.setIfInBounds_toArray, List.set_cons_zero, List.set_cons_succ]
            refine wpAnyH_take (i := 2) (v := ?_) rfl (by kernel_rfl) (by kernel_rfl) (by kernel_rfl) (fun _ _ _ h => h) (Or.inl ⟨by rfl, ?_⟩) (by assumption) ?_
            rotate_left 1
            · intro w hSw; (try dsimp only at hSw); go_simp; (try with_reducible rfl)
            try simp only [Act.put, List.getElem_toArray, List.getElem_cons_zero, List.getElem_cons_succ, List.setIfInBounds_toArray, List.set_cons_zero, List.set_cons_succ]
            refine wpAnyH_take (i := 3) (v := ?_) rfl (by kernel_rfl) (by kernel_rfl) (by kernel_rfl) (fun _ _ _ h => h) (Or.inl ⟨by rfl, ?_⟩) (by assumption) ?_
            rotate_left 1
            · intro w hSw; (try dsimp only at hSw); go_simp; (try with_reducible rfl)
            try simp only [Act.put, List.getElem_toArray, List.getElem_cons_zero, List.getElem_cons_succ, List.setIfInBounds_toArray, List.set_cons_zero, List.set_cons_succ]
            refine wpAnyH_take (i := 4) (v := ?_) rfl (by kernel_rfl) (by kernel_rfl) (by kernel_rfl) (fun _ _ _ h => h) (Or.inl ⟨by rfl, ?_⟩) (by assumption) ?_
            rotate_left 1
            · intro w hSw; (try dsimp only at hSw); go_simp; (try with_reducible rfl)
            try simp only [Act.put, List.getElem_toArray, List.getElem_cons_zero, List.getElem_cons_succ, List.setIfInBounds_toArray, List.set_cons_zero, List.set_cons_succ]
            refine wpAnyH_take (i := 5) (v := ?_) rfl (by kernel_rfl) (by kernel_rfl) (by kernel_rfl) (fun _ _ _ h => h) (Or.inl ⟨by rfl, ?_⟩) (by assumption) ?_
            rotate_left 1
            · intro w hSw; (try dsimp only at hSw); go_simp; (try with_reducible rfl)
            try simp only [Act.put, List.getElem_toArray, List.getElem_cons_zero, List.getElem_cons_succ, List.setIfInBounds_toArray, List.set_cons_zero, List.set_cons_succ]
            refine wpAnyH_take (i := 6) (v := ?_) rfl (by kernel_rfl) (by kernel_rfl) (by kernel_rfl) (fun _ _ _ h => h) (Or.inl ⟨by rfl, ?_⟩) (by assumption) ?_
            rotate_left 1
            · intro w hSw; (try dsimp only at hSw); go_simp; (try with_reducible rfl)
            try simp only [Act.put, List.getElem_toArray, List.getElem_cons_zero, List.getElem_cons_succ, List.setIfInBounds_toArray, List.set_cons_zero, List.set_cons_succ]
            refine wpAnyH_take (i := 7) (v := ?_) rfl (by kernel_rfl) (by kernel_rfl) (by kernel_rfl) (fun _ _ _ h => h) (Or.inl ⟨by rfl, ?_⟩) (by assumption) ?_
            rotate_left 1
            · intro w hSw; (try dsimp only at hSw); go_simp; (try with_reducible rfl)
            try simp only [Act.put, List.getElem_toArray, List.getElem_cons_zero, List.getElem_cons_succ, List.setIfInBounds_toArray, List.set_cons_zero, List.set_cons_succ]
            refine wpAnyH_take (i := 9) (v := ?_) rfl (by kernel_rfl) (by kernel_rfl) (by kernel_rfl) (fun _ _ _ h => h) (Or.inl ⟨by rfl, ?_⟩) (by assumption) ?_
            rotate_left 1
            · intro w hSw; (try dsimp only at hSw); go_simp; (try with_reducible rfl)
            try simp only [Act.put, List.getElem_toArray, List.getElem_cons_zero, List.getElem_cons_succ, List.setIfInBounds_toArray, List.set_cons_zero, List.set_cons_succ]
            refine wpAnyH_take (i := 10) (v := ?_) rfl (by kernel_rfl) (by kernel_rfl) (by kernel_rfl) (fun _ _ _ h => h) (Or.inl ⟨by rfl, ?_⟩) (by assumption) ?_
            rotate_left 1
            · intro w hSw; (try dsimp only at hSw); go_simp; (try with_reducible rfl)
            try simp only [Act.put, List.getElem_toArray, List.getElem_cons_zero, List.getElem_cons_succ, List.setIfInBounds_toArray, List.set_cons_zero, List.set_cons_succ]
            refine wpAnyH_take (i := 12) (v := ?_) rfl (by kernel_rfl) (by kernel_rfl) (by kernel_rfl) (fun _ _ _ h => h) (Or.inl ⟨by rfl, ?_⟩) (by assumption) ?_
            rotate_left 1
            · intro w hSw; (try dsimp only at hSw); go_simp; (try with_reducible rfl)
            try simp only [Act.put, List.getElem_toArray, List.getElem_cons_zero, List.getElem_cons_succ, List.setIfInBounds_toArray, List.set_cons_zero, List.set_cons_succ]
            refine wpAnyH_take (i := 13) (v := ?_) rfl (by kernel_rfl) (by kernel_rfl) (by kernel_rfl) (fun _ _ _ h => h) (Or.inl ⟨by rfl, ?_⟩) (by assumption) ?_
            rotate_left 1
            · intro w hSw; (try dsimp only at hSw); go_simp; (try with_reducible rfl)
            try simp only [Act.put, List.getElem_toArray, List.getElem_cons_zero, List.getElem_cons_succ, List.setIfInBounds_toArray, List.set_cons_zero, List.set_cons_succ]
            refine wpAnyH_ready (rs := [8]) (by kernel_rfl) (by simp) ?_
            refine AllReadyH.cons (i := 8) rfl (fun K hK => ?_) AllReadyH.nil
            go_simp
            go_at_call 143
            ((with_reducible refine (cloneToksR _ lo hi A2 m2 d2 ex (s2.below (show Below wS.heap.size wS _ by (repeat (first | with_reducible exact Below.refl _ _ | with_reducible assumption | with_reducible refine below_alloc ?_ _ | ((with_reducible refine Below.setCell ?_ ?_ _); rotate_left; (· first | exact Nat.le_refl _ | (simp; done) | (simp; omega))) | with_reducible refine below_drewN ?_ _ | with_reducible refine Below.drew ?_ | with_reducible refine below_then ?_ (by with_reducible assumption)))) hhS) (by first | omega | (simp; done) | (simp; omega)) hm2).mono ?_); rintro e w5 ⟨v5, rfl, r5, k5⟩; have b5 : Below wS.heap.size wS w5 := (by (repeat (first | with_reducible exact Below.refl _ _ | with_reducible assumption | with_reducible refine below_alloc ?_ _ | ((with_reducible refine Below.setCell ?_ ?_ _); rotate_left; (· first | exact Nat.le_refl _ | (simp; done) | (simp; omega))) | with_reducible refine below_drewN ?_ _ | with_reducible refine Below.drew ?_ | with_reducible refine below_then ?_ (by with_reducible assumption)))); have z5 := b5.size; obtain ⟨A5, m5, d5, rfl, t5⟩ := tokRow_form r5; clear t5; have nS5 := below_cell b5 nS3)
            go_wp2_with fail
            refine hK.out _ _ (⟨nS5, hSS.out _ b5⟩) (fun hR5 => ?_)
            clear hK K
            try simp only [Act.put, List.getElem_toArray, List.getElem_cons_zero, List.getElem_cons_succ, List.setIfInBounds_toArray, List.set_cons_zero, List.set_cons_succ]
            refine wpAnyH_ready (rs := [11]) (by kernel_rfl) (by simp) ?_
            refine AllReadyH.cons (i := 11) rfl (fun K hK => ?_) AllReadyH.nil
            go_simp
            go_at_call 142
            ((with_reducible refine (cloneIntsR _ lo hi A3 m3 d3 th (s3.below (show Below wS.heap.size wS _ by (repeat (first | with_reducible exact Below.refl _ _ | with_reducible assumption | with_reducible refine below_alloc ?_ _ | ((with_reducible refine Below.setCell ?_ ?_ _); rotate_left; (· first | exact Nat.le_refl _ | (simp; done) | (simp; omega))) | with_reducible refine below_drewN ?_ _ | with_reducible refine Below.drew ?_ | with_reducible refine below_then ?_ (by with_reducible assumption)))) hhS) (by first | omega | (simp; done) | (simp; omega)) hm3).mono ?_); rintro e w6 ⟨v6, rfl, r6, k6⟩; have b6 : Below w5.heap.size w5 w6 := (by (repeat (first | with_reducible exact Below.refl _ _ | with_reducible assumption | with_reducible refine below_alloc ?_ _ | ((with_reducible refine Below.setCell ?_ ?_ _); rotate_left; (· first | exact Nat.le_refl _ | (simp; done) | (simp; omega))) | with_reducible refine below_drewN ?_ _ | with_reducible refine Below.drew ?_ | with_reducible refine below_then ?_ (by with_reducible assumption)))); have z6 := b6.size; obtain ⟨A6, m6, d6, rfl, t6⟩ := r6.form; clear t6; have nS6 := below_cell b6 nS5)
            go_wp2_with fail
            refine hK.out _ _ (⟨nS6, hSS.out _ (below_then b5 b6)⟩) (fun hR6 => ?_)
            clear hK K
            try simp only [Act.put, List.getElem_toArray, List.getElem_cons_zero, List.getElem_cons_succ, List.setIfInBounds_toArray, List.set_cons_zero, List.set_cons_succ]
            refine wpAnyH_ready (rs := [14]) (by kernel_rfl) (by simp) ?_
            refine AllReadyH.cons (i := 14) rfl (fun K hK => ?_) AllReadyH.nil
            go_simp
            go_at_call 142
            ((with_reducible refine (cloneIntsR _ lo hi A4 m4 d4 el (s4.below (show Below wS.heap.size wS _ by (repeat (first | with_reducible exact Below.refl _ _ | with_reducible assumption | with_reducible refine below_alloc ?_ _ | ((with_reducible refine Below.setCell ?_ ?_ _); rotate_left; (· first | exact Nat.le_refl _ | (simp; done) | (simp; omega))) | with_reducible refine below_drewN ?_ _ | with_reducible refine Below.drew ?_ | with_reducible refine below_then ?_ (by with_reducible assumption)))) hhS) (by first | omega | (simp; done) | (simp; omega)) hm4').mono ?_); rintro e w7 ⟨v7, rfl, r7, k7⟩; have b7 : Below w6.heap.size w6 w7 := (by (repeat (first | with_reducible exact Below.refl _ _ | with_reducible assumption | with_reducible refine below_alloc ?_ _ | ((with_reducible refine Below.setCell ?_ ?_ _); rotate_left; (· first | exact Nat.le_refl _ | (simp; done) | (simp; omega))) | with_reducible refine below_drewN ?_ _ | with_reducible refine Below.drew ?_ | with_reducible refine below_then ?_ (by with_reducible assumption)))); have z7 := b7.size; obtain ⟨A7, m7, d7, rfl, t7⟩ := r7.form; clear t7; have nS7 := below_cell b7 nS6; have b57 := below_then (below_then b5 b6) b7; obtain ⟨p0, p1, p2', p3, p4⟩ := hSS.out w7 b57; obtain ⟨Fx, hC, hFx⟩ := stmt_rows r5 r6 r7 b6 b7 (by first | omega | (simp; done) | (simp; omega)) (by first | omega | (simp; done) | (simp; omega)) (by first | omega | (simp; done) | (simp; omega)) E2.out E3.out E4.out k0 k1; have nfS : w7.frozen? ⟨N, 3, none⟩ = false := (below_frozen b57 (show N < wS.heap.size by omega) (below_frozen hxS (show N < wr.heap.size by omega) (nf 3))))
            go_wp2_with fail
            refine hK.out _ _ (⟨nS7, hSS.out _ b57⟩) (fun hR7 => ?_)
            clear hK K
            try simp only [Act.put, List.getElem_toArray, List.getElem_cons_zero, List.getElem_cons_succ, List.setIfInBounds_toArray, List.set_cons_zero, List.set_cons_succ]
            refine wpAnyH_take (i := 15) (v := ?_) rfl (by kernel_rfl) (by kernel_rfl) (by kernel_rfl) (fun _ _ _ h => h) (Or.inl ⟨by rfl, ?_⟩) (by assumption) ?_
            rotate_left 1
            · intro w hSw; (try dsimp only at hSw); go_simp; (try with_reducible rfl)
            try simp only [Act.put, List.getElem_toArray, List.getElem_cons_zero, List.getElem_cons_succ, List.setIfInBounds_toArray, List.set_cons_zero, List.set_cons_succ]
            refine wpAnyH_ready (rs := [16]) (by kernel_rfl) (by simp) ?_
            refine AllReadyH.cons (i := 16) rfl (fun K hK => ?_) AllReadyH.nil
            go_simp
            refine hK.out _ _ (⟨below_cell (show Below w7.heap.size w7 _ by (repeat (first | with_reducible exact Below.refl _ _ | with_reducible assumption | with_reducible refine below_alloc ?_ _ | ((with_reducible refine Below.setCell ?_ ?_ _); rotate_left; (· first | exact Nat.le_refl _ | (simp; done) | (simp; omega))) | with_reducible refine below_drewN ?_ _ | with_reducible refine Below.drew ?_ | with_reducible refine below_then ?_ (by with_reducible assumption)))) nS7, hSS.out _ (show Below wS.heap.size wS _ by (repeat (first | with_reducible exact Below.refl _ _ | with_reducible assumption | with_reducible refine below_alloc ?_ _ | ((with_reducible refine Below.setCell ?_ ?_ _); rotate_left; (· first | exact Nat.le_refl _ | (simp; done) | (simp; omega))) | with_reducible refine below_drewN ?_ _ | with_reducible refine Below.drew ?_ | with_reducible refine below_then ?_ (by with_reducible assumption))))⟩) (fun hR8 => ?_)
            clear hK K
            try simp only [Act.put, List.getElem_toArray, List.getElem_cons_zero, List.getElem_cons_succ, List.setIfInBounds_toArray, List.set_cons_zero, List.set_cons_succ]
            refine wpAnyH_ready (rs := [17]) (by kernel_rfl) (by simp) ?_
            refine AllReadyH.cons (i := 17) rfl (fun K hK => ?_) AllReadyH.nil
            refine step_stmt1 (w7 := w7) (by rfl) _ _ (by rfl) vs (by rfl) _ (by rfl) y0 y1 A5 A6 A7 m5 d5 m6 d6 m7 d7 (by (repeat (first | with_reducible exact Below.refl _ _ | with_reducible assumption | with_reducible refine below_alloc ?_ _ | ((with_reducible refine Below.setCell ?_ ?_ _); rotate_left; (· first | exact Nat.le_refl _ | (simp; done) | (simp; omega))) | with_reducible refine below_drewN ?_ _ | with_reducible refine Below.drew ?_ | with_reducible refine below_then ?_ (by with_reducible assumption)))) (alloc_new' (by first | omega | (simp; done) | (simp; omega))) wc.heap.size (by omega) lt Fs (hoS.below b57) hFs HTL.out _ Fx hC (fun k h1 h2 => by (have q1 := (hFx k h1).1; have q2 := hlF k h2; simp only [heap_drew] at q1; omega)) (fun k h1 => by (have := (hFx k h1).1; simp only [heap_drew] at this; omega)) ?_
            intro A8 m8 d8 w8 F8 o8 hF8 k8 b8 z8
            have hvQ : ¬ vs.ownBlock = some wr.heap.size := (fun e => by (have := hlF _ (hos.ownB _ e); omega))
            have nS8 : w8.cell? ⟨N, 3, none⟩ = some vs := ((b8.cell (p := ⟨N, 3, none⟩) hNC).trans nS7)
            have nf8 : w8.frozen? ⟨N, 3, none⟩ = false := ((b8.frozen (p := ⟨N, 3, none⟩) hNC).trans nfS)
            have hQb := k8.out wr.heap.size (by omega) hvQ
            have kq0 := cell_keep hQb p0
            have kq1 := cell_keep hQb p1
            have kq2 := cell_keep hQb p2'
            have kq3 := cell_keep hQb p3
            have kq4 := cell_keep hQb p4
            clear hQb p0 p1 p2' p3 p4
            refine hK.out _ _ (⟨nS8, kq0, kq1, kq2, kq3, kq4⟩) (fun hR9 => ?_)
            clear hK K
            try simp only [Act.put, List.getElem_toArray, List.getElem_cons_zero, List.getElem_cons_succ, List.setIfInBounds_toArray, List.set_cons_zero, List.set_cons_succ]
            refine wpAnyH_take (i := 18) (v := ?_) rfl (by kernel_rfl) (by kernel_rfl) (by kernel_rfl) (fun _ _ _ h => h) (Or.inl ⟨by rfl, ?_⟩) (by assumption) ?_
            rotate_left 1
            · intro w hSw; (try dsimp only at hSw); go_simp; (try with_reducible rfl)
            try simp only [Act.put, List.getElem_toArray, List.getElem_cons_zero, List.getElem_cons_succ, List.setIfInBounds_toArray, List.set_cons_zero, List.set_cons_succ]
            refine wpAnyH_done (by kernel_rfl) ?_ _
            refine lastQ_op rfl (fun K hK => ?_)
            rw [if_pos (by rfl)]
            go_simp
            refine hK _ _ ?_
            clear hK K
            refine NoPanic.normal ?_
            have e0 : w8.cell? ⟨N, 0, none⟩ = some (.int .i64 x0) := (b8.cell (p := ⟨N, 0, none⟩) hNC).trans (below_cell b57 (below_cell hxS n0))
            have e1' : w8.cell? ⟨N, 1, none⟩ = some (.int .i64 x1) := (b8.cell (p := ⟨N, 1, none⟩) hNC).trans (below_cell b57 (below_cell hxS n1))
            have e2 : w8.cell? ⟨N, 2, none⟩ = some (.slice B2 p2 q2) := (b8.cell (p := ⟨N, 2, none⟩) hNC).trans (below_cell b57 (below_cell hxS n2))
            have ef : ∀ j, w8.frozen? ⟨N, j, none⟩ = false := fun j => (b8.frozen (p := ⟨N, j, none⟩) hNC).trans (below_frozen b57 (show N < wS.heap.size by omega) (below_frozen hxS (show N < wr.heap.size by omega) (nf j)))
            have hfr8 : Fr [N] wc w8 := fr_below ((hf.trans (Fr.of_below hxS)).trans (Fr.of_below b57)) b8 (Nat.le_refl _)
            have o9 : OwnSl StmtR (w8.setCell ⟨N, 3, none⟩ (.slice A8 m8 d8)) 119 F8 (.slice A8 m8 d8) ((ss.take (j + 1)).map (fun f => f)) := by
              rw [HT.out]
              exact o8.keep fun i hi => Below.heap_setCell _ _ _ _ (by have := hF8 i hi; show i ≠ N; omega)
            clear o8 k8 b8 z8 kq0 kq1 kq2 kq3 kq4 hR9 hR8 hR7 hR6 hR5 hR0 r5 r6 r7 hC hFx nfS k5 k6 k7 s2 s3 s4
            go_wp2_with fail
            go_roundw
            case rel => exact ⟨j + 1, _, F8, by omega, by go_num, o9, hF8, by simp [go_sem, nS8], by simp [go_sem, e0], by simp [go_sem, e1'], by simp [go_sem, e2], fun i => by simp [go_sem, ef], by (repeat (first | with_reducible exact Fr.refl _ _ | with_reducible assumption | ((with_reducible refine Fr.setCell ?_ ?_ _); rotate_left; (· first | (simp; done) | assumption | (simp; assumption))) | with_reducible refine Fr.drewN ?_ _ | with_reducible refine Fr.drew ?_ | with_reducible refine Fr.alloc ?_ _ | with_reducible refine Fr.trans ?_ (Fr.of_below (by with_reducible assumption))))⟩
            case measure => simp [intOf]; omega
          · have hfin := hos
            rw [List.take_of_length_le (by have := hsC.lenEq; omega)] at hfin
            obtain ⟨Av, mv, dv, rfl, hmv⟩ := hfin.form
            clear hos hmv
            have hON : ¬ O ∈ [N] := by simp only [List.mem_singleton]; omega
            have kxr : wr.cell? ⟨O, 0, none⟩ = some v := cell_fr hf hON kxc
            have kfr : wr.frozen? ⟨O, 0, none⟩ = false := (World.frozen?_of_block (w := wc) (a := ⟨O, 0, none⟩) (hf.block O (by omega) hON)).trans kfc
            have hrow := hX.row.keepR (w' := wr) fun i h1 h2 h3 => hf.block i h2 (by simp only [List.mem_singleton]; rintro rfl; exact hX.nb h3)
            have yb := World.ownsRow.lt hX.row
            have hoR := hoC.fr hf (fun i hi => by have := hFw i hi; simp only [List.mem_singleton]; omega)
            have o2 := own_ints hrow HB.out
            obtain ⟨Fx, hFx⟩ : ∃ Fx, Fx = (Value.slice B2 p2 q2).ownBlock.toList ++ Fs := ⟨_, rfl⟩
            have hFb : ∀ i, i ∈ (Value.slice B2 p2 q2).ownBlock.toList → wP.heap.size ≤ i ∧ i < wc.heap.size := fun i hi => yb i (by simpa using hi)
            have hC : FuncR.own wr Fx [.int .i64 x0, .int .i64 x1, .slice B2 p2 q2, .slice Av mv dv] (x0, x1, body, ss.map (fun f => f)) := by
              rw [hFx]
              exact Func_own o2 hfin i0 i1 (nodup_app o2.nodup hfin.nodup (fun i hi => (hFb i hi).2) hFs)
            have hFx1 : ∀ i, i ∈ Fx → wP.heap.size ≤ i := fun i hi => by
              rw [hFx] at hi
              rcases List.mem_append.1 hi with hi | hi
              · exact (hFb i hi).1
              · have := hFs i hi; omega
            have hdj : ∀ i, i ∈ Fx → i ∉ F := fun i h1 h2 => by have := hFx1 i h1; have := hFw i h2; omega
            have l5 : ∀ i, i ∈ Fx → i < wr.heap.size := FuncR.ownLt hC
            have hOr : O < wr.heap.size := by omega
            clear hFx hfin hrow o2 yb hFb
            go_wp2_with (at_builtin; refine wpl_own1 _ rfl _ _ 61 rfl FuncR 116 inf (.agg #[.int .i64 0, .int .i64 0, .slice none 0 0, .slice none 0 0]) 4 64 Try.underlying61 HIF.out HZ0.out HZ1.out HZ2.out rfl rfl (by decide) v k ls F rfl hlen.out (hoR.below (show Below wr.heap.size wr _ by (repeat (first | with_reducible exact Below.refl _ _ | with_reducible assumption | with_reducible refine below_alloc ?_ _ | ((with_reducible refine Below.setCell ?_ ?_ _); rotate_left; (· first | exact Nat.le_refl _ | (simp; done) | (simp; omega))) | with_reducible refine below_drewN ?_ _ | with_reducible refine Below.drew ?_ | with_reducible refine below_then ?_ (by with_reducible assumption))))) ⟨wr.heap.size, 0, none⟩ 1 [.int .i64 x0, .int .i64 x1, .slice B2 p2 q2, .slice Av mv dv] (x0, x1, body, ss.map (fun f => f)) Fx rfl (cells_new _ _ _ (by simp)) (FuncR.ownKeep (fun i hi => (show Below wr.heap.size wr _ by (repeat (first | with_reducible exact Below.refl _ _ | with_reducible assumption | with_reducible refine below_alloc ?_ _ | ((with_reducible refine Below.setCell ?_ ?_ _); rotate_left; (· first | exact Nat.le_refl _ | (simp; done) | (simp; omega))) | with_reducible refine below_drewN ?_ _ | with_reducible refine Below.drew ?_ | with_reducible refine below_then ?_ (by with_reducible assumption)))).block i (l5 i hi)) hC) func_one hdj (by omega) (by decide) ?_)
            intro v' w6 F' ho6 hg6 hF6
            have hvB : ∀ g, v.ownBlock = some g → O < g := fun g hg => hF g (hoR.ownB g hg)
            obtain ⟨A6, n6, c6, hv6, hn6⟩ := ho6.form
            clear hn6
            subst hv6
            have hk6 : ∀ b, b ≤ O → w6.heap[b]? = wr.heap[b]? := fun b hb => (hg6.block b (by simp; omega) (fun e => by have := hvB b e.symm; omega)).trans (Below.heap_alloc _ _ _ (by omega))
            have hbr : Below O w2 wr := hbc.trans ⟨hf.os, hf.tape, hf.output, hf.size, fun i hi => hf.block i (by omega) (by simp only [List.mem_singleton]; omega)⟩
            have hb6 : Below O w2 w6 := ⟨hg6.os.trans hbr.os, hg6.tape.trans hbr.tape, hg6.output.trans hbr.output, by have := hg6.size; have := hbr.size; simp at *; omega, fun b hb => (hk6 b (by omega)).trans (hbr.block b hb)⟩
            have kx6 : w6.cell? ⟨O, 0, none⟩ = some v := (World.cell?_of_block (w := wr) (a := ⟨O, 0, none⟩) (hk6 O (Nat.le_refl _))).trans kxr
            have kf6 : w6.frozen? ⟨O, 0, none⟩ = false := (World.frozen?_of_block (w := wr) (a := ⟨O, 0, none⟩) (hk6 O (Nat.le_refl _))).trans kfr
            have hF6' : ∀ i, i ∈ F' → O < i := fun i hi => by
              rcases hF6 i hi with hi | hi | hi
              · exact hF i hi
              · have := hFx1 i hi; omega
              · first | omega | (simp at hi; omega)
            have ho7 : OwnSl FuncR (w6.setCell ⟨O, 0, none⟩ (.slice A6 n6 c6)) 116 F' (.slice A6 n6 c6) ((fs.take (k + 1)).map (fun f => f)) := by
              rw [HS.out]
              exact ho6.keep fun i hi => Below.heap_setCell _ _ _ _ (by have := hF6' i hi; show i ≠ O; omega)
            clear hk6 hg6 ho6 hF6 hbr hC hdj l5 hvB hoR kxr kfr n0 n1 n2 n3 nf
            go_wp2_with fail
            go_roundw
            case rel => exact ⟨k + 1, _, F', by omega, by go_num, ho7, hF6', by simp [go_sem, kx6], by simp [go_sem, kf6], by (repeat (first | with_reducible exact Below.refl _ _ | with_reducible assumption | with_reducible refine below_alloc ?_ _ | ((with_reducible refine Below.setCell ?_ ?_ _); rotate_left; (· first | exact Nat.le_refl _ | (simp; done) | (simp; omega))) | with_reducible refine below_drewN ?_ _ | with_reducible refine Below.drew ?_ | with_reducible refine below_then ?_ (by with_reducible assumption)))⟩
            case measure => simp [intOf]; omega
    · have hfin := ho
      rw [List.take_of_length_le (by have := e1.out; omega)] at hfin
      clear ho
      obtain ⟨A0, n0, c0, rfl, hn0⟩ := hfin.form
      have kr : wr.cell? ⟨w.heap.size + 1, 0, none⟩ = some (.slice none 0 0) := (hb.cell (p := ⟨w.heap.size + 1, 0, none⟩) (show w.heap.size + 1 < O by omega)).trans hR0
      have kfr : wr.frozen? ⟨w.heap.size + 1, 0, none⟩ = false := (hb.frozen (p := ⟨w.heap.size + 1, 0, none⟩) (show w.heap.size + 1 < O by omega)).trans hRf
      have hbw : Below w.heap.size w wr := hx2.trans (hb.mono (by omega))
      clear hn0
      go_wp2_with fail
      refine bodyPost_ret (v := .agg #[.slice A0 n0 c0]) (by simp [results, Try.results87, go_sem, kr]) rfl ?_
      exact ⟨A0, n0, c0, F, rfl, by rw [List.map_id'' (fun _ => rfl)] at hfin; exact hfin.keep (fun i hi => Below.heap_setCell _ _ _ _ (by have := hF i hi; show i ≠ w.heap.size + 1; omega)), fun i hi => by have := hF i hi; omega, by (repeat (first | with_reducible exact Below.refl _ _ | with_reducible assumption | with_reducible refine below_alloc ?_ _ | ((with_reducible refine Below.setCell ?_ ?_ _); rotate_left; (· first | exact Nat.le_refl _ | (simp; done) | (simp; omega))) | with_reducible refine below_drewN ?_ _ | with_reducible refine Below.drew ?_ | with_reducible refine below_then ?_ (by with_reducible assumption)))⟩
end Go.Proofs.Ythdpkcmeepabjaa
