/- A new frame: the reference's walk. -/
import Derived.Test.YtgdeclmciflmpaaGreatLiveA
import Derived.Test.YtgdeclmciflmpaaGreatOwnI
import Derived.Deep.RegionHeld3
set_option linter.unusedVariables false
set_option linter.unusedSimpArgs false
set_option maxRecDepth 100000
namespace Go.Proofs.YtgdeclmciflmpaaGreat
open Go.RowKit
def BoolRow (w : World) (base : Nat) (v : Value) (l : List Bool) : Prop := w.ownsRow base 4 1 v l.length (l.map Value.bool)
theorem BoolRow.keepR {w w' : World} {b : Nat} {v : Value} {l : List Bool} (h : BoolRow w b v l) (hk : ∀ k, b ≤ k → k < w.heap.size → v.ownBlock = some k → w'.heap[k]? = w.heap[k]?) : BoolRow w' b v l := ownsRow_keep0 h fun k e => hk k (World.ownsRow.lt h k e).1 (World.ownsRow.lt h k e).2 e
theorem BoolRow.mono {w : World} {b b' : Nat} {v : Value} {l : List Bool} (h : BoolRow w b v l) (hb : b' ≤ b) : BoolRow w b' v l := World.ownsRow.mono h hb
/-- A slice is made in a drawn region. -/
theorem upon_make {P : Program} (w : World) {o : Oper} {a : Act} {K : Act → World → Prop} {Q : Exit → Act → World → Prop} (t : TypeId)
    (base : Nat) (e : TypeId) (i : TypeInfo) (z : Value) (size : Nat) (h1 : P.underlying t = some (.slice e)) (h2 : P.info? e = some i) (h3 : i.zero = some z) (h4 : i.size = size)
    (n : Nat) (b2 : i.bytes * n ≤ 281474976710656) (b3 : n ≤ maxLen) (b4 : base ≤ w.heap.size)
    (h : ∀ w', w'.ownsRow base e size (.slice (some ⟨w.heap.size, 0, none⟩) n n) n (madeCells z.cells (n * size)).toList → w.grownBy w' none → K (a.put o.dst (.slice (some ⟨w.heap.size, 0, none⟩) n n)) w') :
    Oper.upon P o a K Q ((Sem.run P (Instr.makeSlice t (.int .i64 n) (.int .i64 n)) w).andThen fun a w' => Result.ok (Next.value a) w') := by
  obtain ⟨w', hrun, r1, r2⟩ := run_make_full (P := P) w base t e i z size h1 h2 h3 h4 .i64 .i64 n b2 b3 b4
  rw [hrun]
  exact h _ r1 r2
theorem upon_makeInts {w : World} {o : Oper} {a : Act} {K : Act → World → Prop} {Q : Exit → Act → World → Prop}
    (W : World) (hW : Below W.heap.size W w) (n : Nat) (hn : n ≤ 1048576)
    (h : ∀ w' g, Hid (g = w.heap.size) → IntRow w' W.heap.size (.slice (some ⟨g, 0, none⟩) n n) (List.replicate n 0) → Hid (∀ k, k < w.heap.size → w'.heap[k]? = w.heap[k]?) → Below W.heap.size W w' → w.heap.size < w'.heap.size → K (a.put o.dst (.slice (some ⟨g, 0, none⟩) n n)) w') :
    Oper.upon Tryz.prog o a K Q ((Sem.run Tryz.prog (Instr.makeSlice 25 (.int .i64 n) (.int .i64 n)) w).andThen fun a w' => Result.ok (Next.value a) w') := by
  obtain ⟨i, h2, h3, h4, h5⟩ := info_parts Tryz.infoInt
  refine upon_make w _ W.heap.size 3 i (.int .i64 0) 1 Tryz.underlying25 h2 h3 h4 n (by rw [h5]; omega) (by unfold maxLen; omega) hW.size ?_
  intro w' r g
  have hr : IntRow w' W.heap.size (.slice (some ⟨w.heap.size, 0, none⟩) n n) (List.replicate n 0) := by
    unfold IntRow
    rw [List.length_replicate, List.map_replicate]
    rw [Nat.mul_one, show (Value.int IntKind.i64 0).cells = #[.int .i64 0] from rfl, toList_madeCells_one] at r
    exact r
  exact h w' _ (Lib.hid rfl) hr (Lib.hid fun k hk => g.block k hk (by simp)) (hW.grown g hW.size (fun k hk => by cases hk)) (World.ownsRow.lt hr _ rfl).2
theorem upon_makeBools {w : World} {o : Oper} {a : Act} {K : Act → World → Prop} {Q : Exit → Act → World → Prop}
    (W : World) (hW : Below W.heap.size W w) (n : Nat) (hn : n ≤ 1048576)
    (h : ∀ w' g, Hid (g = w.heap.size) → BoolRow w' W.heap.size (.slice (some ⟨g, 0, none⟩) n n) (List.replicate n false) → Hid (∀ k, k < w.heap.size → w'.heap[k]? = w.heap[k]?) → Below W.heap.size W w' → w.heap.size < w'.heap.size → K (a.put o.dst (.slice (some ⟨g, 0, none⟩) n n)) w') :
    Oper.upon Tryz.prog o a K Q ((Sem.run Tryz.prog (Instr.makeSlice 72 (.int .i64 n) (.int .i64 n)) w).andThen fun a w' => Result.ok (Next.value a) w') := by
  obtain ⟨i, h2, h3, h4, h5⟩ := info_parts Tryz.infoBool
  refine upon_make w _ W.heap.size 4 i (.bool false) 1 Tryz.underlying72 h2 h3 h4 n (by rw [h5]; omega) (by unfold maxLen; omega) hW.size ?_
  intro w' r g
  have hr : BoolRow w' W.heap.size (.slice (some ⟨w.heap.size, 0, none⟩) n n) (List.replicate n false) := by
    unfold BoolRow
    rw [List.length_replicate, List.map_replicate]
    rw [Nat.mul_one, show (Value.bool false).cells = #[.bool false] from rfl, toList_madeCells_one] at r
    exact r
  exact h w' _ (Lib.hid rfl) hr (Lib.hid fun k hk => g.block k hk (by simp)) (hW.grown g hW.size (fun k hk => by cases hk)) (World.ownsRow.lt hr _ rfl).2
/-- A frame whose two lists are of the call's own. -/
def FrRows (w : World) (base : Nat) (v4 v5 : Value) (l4 : List Int) (l5 : List Bool) : Prop := IntRow w base v4 l4 ∧ BoolRow w base v5 l5 ∧ ∀ g, v4.ownBlock = some g → v5.ownBlock = some g → False
theorem FrRows.fr {w w' : World} {G : List Nat} {b : Nat} {v4 v5 : Value} {l4 : List Int} {l5 : List Bool} (h : FrRows w b v4 v5 l4 l5) (hf : Fr G w w') (hG : ∀ g, g ∈ G → g < b) : FrRows w' b v4 v5 l4 l5 :=
  ⟨h.1.keepR fun k h1 h2 _ => hf.block k h2 (fun hk => by have := hG k hk; omega), h.2.1.keepR fun k h1 h2 _ => hf.block k h2 (fun hk => by have := hG k hk; omega), h.2.2⟩
theorem FrRows.mono {w : World} {b b' : Nat} {v4 v5 : Value} {l4 : List Int} {l5 : List Bool} (h : FrRows w b v4 v5 l4 l5) (hb : b' ≤ b) : FrRows w b' v4 v5 l4 l5 := ⟨World.ownsRow.mono h.1 hb, h.2.1.mono hb, h.2.2⟩
def RetFr (x0 x1 x2 : Int) (n m : Nat) (b : Bool) (w : World) (e : Ending) (w' : World) : Prop :=
  ∃ A4 n4 c4 A5 n5 c5, e = .returned (.agg #[.int .i64 x0, .int .i64 x1, .int .i64 x2, .slice none 0 0, .slice A4 n4 c4, .slice A5 n5 c5, .int .i64 0, .int .i64 0, .int .i64 0, .int .i64 1, .bool b]) ∧ FrRows w' w.heap.size (.slice A4 n4 c4) (.slice A5 n5 c5) (List.replicate n 0) (List.replicate m false) ∧ Below w.heap.size w w'
set_option maxHeartbeats 16000000 in
theorem specL8Frame (w : World) (k x0 : Int) (x1 : Nat) (v3 v4 : Value) (A2 A3 A4 : Option Addr) (n2 c2 n3 c3 n4 c4 : Nat) (hx : x1 ≤ 1048576) (hn2 : n2 ≤ 1048576) :
    Calls Tryz.prog 67 #[.agg #[.int .i64 x0, .int .i64 x1, .slice A2 n2 c2, .slice A3 n3 c3, .slice A4 n4 c4], .int .i64 k] w (RetFr 0 k 0 x1 n2 false w) := by
  go_enter Tryz.func67, Tryz.ntmps67
  go_wp2_with fail
  obtain ⟨W, hW⟩ : ∃ W, W = (w.alloc (.cells #[.int .i64 x0, .int .i64 x1, .slice A2 n2 c2, .slice A3 n3 c3, .slice A4 n4 c4] 78)).alloc (.cells #[.int .i64 0, .int .i64 0, .int .i64 0, .slice none 0 0, .slice none 0 0, .slice none 0 0, .int .i64 0, .int .i64 0, .int .i64 0, .int .i64 0, .bool false] 74) := ⟨_, rfl⟩
  have hbW : Below w.heap.size w W := by rw [hW]; exact belA
  have hzW0 : W.heap.size = w.heap.size + 2 := by rw [hW]; simp
  have hS := Lib.hid (show ∀ V, Below W.heap.size W V → V.cell? ⟨w.heap.size, 1, none⟩ = some (.int .i64 x1) ∧ V.cell? ⟨w.heap.size, 2, none⟩ = some (.slice A2 n2 c2) from fun V hV => by
    refine ⟨below_cell hV ?_, below_cell hV ?_⟩ <;> (rw [hW]; simp [go_sem]))
  have hT := Lib.hid (show ∀ V, Below W.heap.size W V → V.cell? ⟨w.heap.size + 1, 0, none⟩ = some (.int .i64 0) ∧ V.cell? ⟨w.heap.size + 1, 1, none⟩ = some (.int .i64 0) ∧ V.cell? ⟨w.heap.size + 1, 2, none⟩ = some (.int .i64 0) ∧ V.cell? ⟨w.heap.size + 1, 3, none⟩ = some (.slice none 0 0) ∧ V.cell? ⟨w.heap.size + 1, 4, none⟩ = some (.slice none 0 0) ∧ V.cell? ⟨w.heap.size + 1, 5, none⟩ = some (.slice none 0 0) ∧ V.cell? ⟨w.heap.size + 1, 6, none⟩ = some (.int .i64 0) ∧ V.cell? ⟨w.heap.size + 1, 7, none⟩ = some (.int .i64 0) ∧ V.cell? ⟨w.heap.size + 1, 8, none⟩ = some (.int .i64 0) ∧ V.cell? ⟨w.heap.size + 1, 9, none⟩ = some (.int .i64 0) ∧ V.cell? ⟨w.heap.size + 1, 10, none⟩ = some (.bool false) from fun V hV => by
    refine ⟨below_cell hV ?_, below_cell hV ?_, below_cell hV ?_, below_cell hV ?_, below_cell hV ?_, below_cell hV ?_, below_cell hV ?_, below_cell hV ?_, below_cell hV ?_, below_cell hV ?_, below_cell hV ?_⟩ <;> (rw [hW]; simp [go_sem]))
  have xf := Lib.hid (show ∀ V, Below W.heap.size W V → ∀ j, V.frozen? ⟨w.heap.size + 1, j, none⟩ = false from fun V hV j => below_frozen hV (show w.heap.size + 1 < W.heap.size by omega) (by rw [hW]; simp [go_sem]))
  rw [← hW]
  clear hW
  have hzW : w.heap.size + 2 ≤ W.heap.size := by omega
  clear hzW0
  go_region_held3 (fun V => V.cell? ⟨w.heap.size, 1, none⟩ = some (.int .i64 x1) ∧ V.cell? ⟨w.heap.size, 2, none⟩ = some (.slice A2 n2 c2)) (first | (refine ⟨?_, ?_⟩ <;> simp [go_sem, q0, q1]) | exact hS.out _ (show Below W.heap.size W _ by exact belA))
    (first
      | (refine upon_makeInts W (by exact belA) x1 hx ?_; intro w4 g4 e4 r4 k4 b4 z4; obtain ⟨q0, q1⟩ := hS.out w4 b4; obtain ⟨t0, t1, t2, t3, t4, t5, t6, t7, t8, t9, t10⟩ := hT.out w4 b4; have xg := xf.out w4 b4)
      | (refine upon_makeBools W (by exact belA) n2 hn2 ?_; intro w5 g5 e5 r5 k5 b5 z5; obtain ⟨q0, q1⟩ := hS.out w5 b5; obtain ⟨t0, t1, t2, t3, t4, t5, t6, t7, t8, t9, t10⟩ := hT.out w5 b5; have xg := xf.out w5 b5))
  all_goals
    have y4 := (World.ownsRow.lt r4 g4 rfl).2
    have y5 := (World.ownsRow.lt r5 g5 rfl).2
    replace e4 := e4.out
    replace e5 := e5.out
    first
      | (have hne : ¬ g4 = g5 := (by (try simp only [heap_drew] at e4 e5); omega)
         have hc : FrRows w5 W.heap.size (.slice (some ⟨g4, 0, none⟩) x1 x1) (.slice (some ⟨g5, 0, none⟩) n2 n2) (List.replicate x1 0) (List.replicate n2 false) := ⟨r4.keepR fun k h1 h2 _ => (k5.out k (by (try simp only [heap_drew]); omega)), r5, fun g h1 h2 => by simp [Value.ownBlock] at h1 h2; omega⟩
         have hb4 : Below w.heap.size w w5 := hbW.trans (b5.mono (by omega))
         clear r4 r5 e4 e5 k4 k5 hS hT xf
         go_wp2_with fail
         refine bodyPost_ret (v := .agg #[.int .i64 0, .int .i64 k, .int .i64 0, .slice none 0 0, .slice (some ⟨g4, 0, none⟩) x1 x1, .slice (some ⟨g5, 0, none⟩) n2 n2, .int .i64 0, .int .i64 0, .int .i64 0, .int .i64 1, .bool false]) (by simp [results, Tryz.results67, go_sem, t0, t1, t2, t3, t4, t5, t6, t7, t8, t9, t10, xg]) rfl ?_
         refine ⟨_, _, _, _, _, _, rfl, (hc.fr (G := [w.heap.size + 1]) (by exact frcA) (by first | omega | (simp; done) | (simp; omega))).mono (by omega), ?_⟩
         exact belA)
      | (have hne : ¬ g4 = g5 := (by (try simp only [heap_drew] at e4 e5); omega)
         have hc : FrRows w4 W.heap.size (.slice (some ⟨g4, 0, none⟩) x1 x1) (.slice (some ⟨g5, 0, none⟩) n2 n2) (List.replicate x1 0) (List.replicate n2 false) := ⟨r4, r5.keepR fun k h1 h2 _ => (k4.out k (by (try simp only [heap_drew]); omega)), fun g h1 h2 => by simp [Value.ownBlock] at h1 h2; omega⟩
         have hb4 : Below w.heap.size w w4 := hbW.trans (b4.mono (by omega))
         clear r4 r5 e4 e5 k4 k5 hS hT xf
         go_wp2_with fail
         refine bodyPost_ret (v := .agg #[.int .i64 0, .int .i64 k, .int .i64 0, .slice none 0 0, .slice (some ⟨g4, 0, none⟩) x1 x1, .slice (some ⟨g5, 0, none⟩) n2 n2, .int .i64 0, .int .i64 0, .int .i64 0, .int .i64 1, .bool false]) (by simp [results, Tryz.results67, go_sem, t0, t1, t2, t3, t4, t5, t6, t7, t8, t9, t10, xg]) rfl ?_
         refine ⟨_, _, _, _, _, _, rfl, (hc.fr (G := [w.heap.size + 1]) (by exact frcA) (by first | omega | (simp; done) | (simp; omega))).mono (by omega), ?_⟩
         exact belA)
end Go.Proofs.YtgdeclmciflmpaaGreat
