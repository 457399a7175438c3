/- Programs done with fuel: the program's run in memory. Plain lemmas; the small walks. -/
import Derived.Test.YtgoinmdnpaknpaaBigO
import Derived.Test.YtgoinmdnpaknpaaBlk
import Derived.Test.YtgoinmdnpaknpaaKit1
import Derived.Deep.DeepCutAuto
set_option linter.unusedVariables false
set_option linter.unusedSimpArgs false
set_option maxRecDepth 100000
namespace Go.Proofs.Ytgoinmdnpaknpaa
open Go.RowKit
attribute [local irreducible] wpList
theorem heapPut {w : World} {b i : Nat} {cs : Array Value} {t : TypeId} {u : Value} (h : w.heap[b]? = some (.cells cs t)) : (w.setCell ⟨b, i, none⟩ u).heap[b]? = some (.cells (cs.setIfInBounds i u) t) := by
  unfold World.setCell
  simp only [Array.getElem?_modify, h]
  simp
/-- Where the run lies: its block, the program, the inputs. -/
structure MCfg where
  R : Nat
  Ap : Option Addr
  np : Nat
  cp : Nat
  Ai : Option Addr
  ni : Nat
  ci : Nat
/-- The run's block. -/
def RunB (M : MCfg) (most : Nat) (w : World) (deep code : Int) (vt : Value) (fuel used : Nat) : Prop :=
  w.heap[M.R]? = some (.cells #[.slice M.Ap M.np M.cp, .slice M.Ai M.ni M.ci, .int .i64 most, .int .i64 fuel, .int .i64 deep, .int .i64 code, .int .i64 0, vt, .int .i64 used] 103)
/-- A call's block. -/
def ClB (w : World) (c : Nat) (fn : Nat) (vv : Value) (res : Int) (vo : Value) (en pn : Int) (ex : Bool) (y : Option Nat) : Prop :=
  w.heap[c]? = some (.cells #[.int .i64 fn, vv, .int .i64 res, vo, .int .i64 en, .int .i64 pn, .bool ex, .pointer (y.map fun k => ⟨k, 0, none⟩)] 134)
section
variable {M : MCfg} {most : Nat} {w w' : World} {deep code : Int} {vt : Value} {fuel used : Nat} {c fn : Nat} {vv vo : Value} {res en pn : Int} {ex : Bool} {y : Option Nat}
theorem RunB.cell (h : RunB M most w deep code vt fuel used) (i : Nat) {v : Value} (hv : (#[.slice M.Ap M.np M.cp, .slice M.Ai M.ni M.ci, .int .i64 most, .int .i64 fuel, .int .i64 deep, .int .i64 code, .int .i64 0, vt, .int .i64 used] : Array Value)[i]? = some v := by rfl) : w.cell? ⟨M.R, i, none⟩ = some v := by
  rw [cell_of_row _ _ _ _ _ _ h]; exact hv
theorem ClB.cell (h : ClB w c fn vv res vo en pn ex y) (i : Nat) {v : Value} (hv : (#[.int .i64 fn, vv, .int .i64 res, vo, .int .i64 en, .int .i64 pn, .bool ex, .pointer (y.map fun k => ⟨k, 0, none⟩)] : Array Value)[i]? = some v := by rfl) : w.cell? ⟨c, i, none⟩ = some v := by
  rw [cell_of_row _ _ _ _ _ _ h]; exact hv
theorem RunB.fr (h : RunB M most w deep code vt fuel used) {G : List Nat} (hf : Fr G w w') (hG : M.R ∉ G) : RunB M most w' deep code vt fuel used := (hf.block M.R (blk_size h) hG).trans h
theorem ClB.fr (h : ClB w c fn vv res vo en pn ex y) {G : List Nat} (hf : Fr G w w') (hG : c ∉ G) : ClB w' c fn vv res vo en pn ex y := (hf.block c (blk_size h) hG).trans h
theorem RunB.putFuel (h : RunB M most w deep code vt fuel used) (n : Nat) : RunB M most (w.setCell ⟨M.R, 3, none⟩ (.int .i64 n)) deep code vt n used := by unfold RunB; rw [heapPut h]; rfl
theorem RunB.putDeep (h : RunB M most w deep code vt fuel used) (n : Int) : RunB M most (w.setCell ⟨M.R, 4, none⟩ (.int .i64 n)) n code vt fuel used := by unfold RunB; rw [heapPut h]; rfl
theorem RunB.putCode (h : RunB M most w deep code vt fuel used) (n : Int) : RunB M most (w.setCell ⟨M.R, 5, none⟩ (.int .i64 n)) deep n vt fuel used := by unfold RunB; rw [heapPut h]; rfl
theorem RunB.putTr (h : RunB M most w deep code vt fuel used) (v : Value) : RunB M most (w.setCell ⟨M.R, 7, none⟩ v) deep code v fuel used := by unfold RunB; rw [heapPut h]; rfl
theorem RunB.putUsed (h : RunB M most w deep code vt fuel used) (n : Nat) : RunB M most (w.setCell ⟨M.R, 8, none⟩ (.int .i64 n)) deep code vt fuel n := by unfold RunB; rw [heapPut h]; rfl
theorem ClB.putRes (h : ClB w c fn vv res vo en pn ex y) (n : Int) : ClB (w.setCell ⟨c, 2, none⟩ (.int .i64 n)) c fn vv n vo en pn ex y := by unfold ClB; rw [heapPut h]; rfl
theorem ClB.putOff (h : ClB w c fn vv res vo en pn ex y) (v : Value) : ClB (w.setCell ⟨c, 3, none⟩ v) c fn vv res v en pn ex y := by unfold ClB; rw [heapPut h]; rfl
theorem ClB.putEnd (h : ClB w c fn vv res vo en pn ex y) (n : Int) : ClB (w.setCell ⟨c, 4, none⟩ (.int .i64 n)) c fn vv res vo n pn ex y := by unfold ClB; rw [heapPut h]; rfl
theorem ClB.putPan (h : ClB w c fn vv res vo en pn ex y) (n : Int) : ClB (w.setCell ⟨c, 5, none⟩ (.int .i64 n)) c fn vv res vo en n ex y := by unfold ClB; rw [heapPut h]; rfl
theorem ClB.putEx (h : ClB w c fn vv res vo en pn ex y) (b : Bool) : ClB (w.setCell ⟨c, 6, none⟩ (.bool b)) c fn vv res vo en pn b y := by unfold ClB; rw [heapPut h]; rfl
end
/-- The ending that a deferred call may recover lies in the block of the call that put it off. -/
def ByIn (w : World) : Option Nat → Option BEnd → Prop
  | none, none => True
  | some k, some e => ∃ fn vv res vo pn y, ClB w k fn vv res vo e.how pn e.ex y ∧ (e.how = 2 → pn = e.val)
  | _, _ => False
/-- How it turns. -/
def ByUp (w w' : World) : Option Nat → Option BEnd → Option BEnd → Prop
  | none, none, none => True
  | some k, some e, some e' => (∀ fn vv res vo pn y, ClB w k fn vv res vo e.how pn e.ex y → ClB w' k fn vv res vo e'.how pn e'.ex y) ∧ (e'.how = 2 → e.how = 2 ∧ e'.val = e.val)
  | _, _, _ => False
theorem ByUp.refl {w : World} : ∀ {y : Option Nat} {b : Option BEnd}, ByIn w y b → ByUp w w y b b
  | none, none, _ => trivial
  | some _, some _, _ => ⟨fun _ _ _ _ _ _ h => h, fun h => ⟨h, rfl⟩⟩
theorem ByUp.trans {w w1 w2 : World} : ∀ {y : Option Nat} {b b1 b2 : Option BEnd}, ByUp w w1 y b b1 → ByUp w1 w2 y b1 b2 → ByUp w w2 y b b2
  | none, none, none, none, _, _ => trivial
  | some _, some _, some _, some _, h1, h2 => ⟨fun fn vv res vo pn y h => h2.1 fn vv res vo pn y (h1.1 fn vv res vo pn y h), fun h => by obtain ⟨a, b⟩ := h2.2 h; obtain ⟨c, d⟩ := h1.2 a; exact ⟨c, b.trans d⟩⟩
theorem ByIn.up {w w' : World} : ∀ {y : Option Nat} {b b' : Option BEnd}, ByIn w y b → ByUp w w' y b b' → ByIn w' y b'
  | none, none, none, _, _ => trivial
  | some _, some _, some _, ⟨fn, vv, res, vo, pn, y, h, hp⟩, h2 => ⟨fn, vv, res, vo, pn, y, h2.1 _ _ _ _ _ _ h, fun h3 => by obtain ⟨a, b⟩ := h2.2 h3; rw [hp a, b]⟩
theorem ByIn.lt {w : World} : ∀ {y : Option Nat} {b : Option BEnd}, ByIn w y b → ∀ k, y = some k → k < w.heap.size
  | some _, some _, ⟨_, _, _, _, _, _, h, _⟩, k, e => by injection e with e; subst e; exact blk_size h
/-- A world in which that block is as it was. -/
theorem ByUp.fr {w w' : World} {y : Option Nat} {b : Option BEnd} {G : List Nat} (h : ByIn w y b) (hf : Fr G w w') (hG : ∀ k, y = some k → k ∉ G) : ByUp w w' y b b := by
  match y, b, h with
  | none, none, _ => trivial
  | some k, some e, _ => exact ⟨fun fn vv res vo pn y h => h.fr hf (hG k rfl), fun h => ⟨h, rfl⟩⟩
/-- Fuel is taken. -/
theorem implBurn0 (M : MCfg) (most : Nat) (w : World) (deep code : Int) (vt : Value) (used : Nat) (h : RunB M most w deep code vt 0 used) :
    Calls Try.prog 83 #[.pointer (some ⟨M.R, 0, none⟩)] w (fun e w' => e = .returned (.bool false) ∧ RunB M most w' deep 5 vt 0 used ∧ Fr [M.R] w w') := by
  have H := Lib.hid h
  have c3 := h.cell 3
  have c5 := h.cell 5
  have z5 := blk_frozen h 5
  have hR := blk_size h
  clear h
  go_enter Try.func83, Try.ntmps83
  go_wp2_with fail
  go_ret
  exact ⟨rfl, H.out.putCode 5, Fr.setCell (p := ⟨M.R, 5, none⟩) (Fr.refl _ _) (List.mem_singleton.2 rfl) _⟩
theorem implBurn1 (M : MCfg) (most : Nat) (w : World) (deep code : Int) (vt : Value) (fuel used : Nat) (h : RunB M most w deep code vt (fuel + 1) used) (hf : fuel ≤ 600) :
    Calls Try.prog 83 #[.pointer (some ⟨M.R, 0, none⟩)] w (fun e w' => e = .returned (.bool true) ∧ RunB M most w' deep code vt fuel used ∧ Fr [M.R] w w') := by
  have H := Lib.hid h
  have c3 := h.cell 3
  have z3 := blk_frozen h 3
  have hR := blk_size h
  have e1 : ((fuel + 1 : Nat) : Int) - 1 = (fuel : Int) := by omega
  have e2 : (((fuel + 1 : Nat) : Int) == 0) = false := by rw [beq_eq_false_iff_ne]; omega
  clear h
  go_enter Try.func83, Try.ntmps83
  go_wp2_with fail
  go_ret
  exact ⟨rfl, H.out.putFuel fuel, Fr.setCell (p := ⟨M.R, 3, none⟩) (Fr.refl _ _) (List.mem_singleton.2 rfl) _⟩
theorem implEnding (w : World) (c fn : Nat) (vv vo : Value) (res en pn : Int) (ex : Bool) (y : Option Nat) (how n : Int) (h : ClB w c fn vv res vo en pn ex y) (hw : 1 ≤ how ∧ how ≤ 3) :
    Calls Try.prog 85 #[.pointer (some ⟨c, 0, none⟩), .int .i64 how, .int .i64 n] w (fun e w' => e = .returned (.tuple #[]) ∧ ClB w' c fn vv res vo how (if how = 2 then n else pn) (ex || how == 3) y ∧ Fr [c] w w') := by
  have H := Lib.hid h
  have c4 := h.cell 4
  have c5 := h.cell 5
  have c6 := h.cell 6
  have z4 := blk_frozen h 4
  have z5 := blk_frozen h 5
  have z6 := blk_frozen h 6
  have hR := blk_size h
  have hc : how = 1 ∨ how = 2 ∨ how = 3 := by omega
  clear h hw
  rcases hc with rfl | rfl | rfl
  · go_enter Try.func85, Try.ntmps85
    go_wp2_with fail
    go_end0
    exact ⟨rfl, by have := H.out.putEnd 1; simpa using this, Fr.setCell (p := ⟨c, 4, none⟩) (Fr.refl _ _) (List.mem_singleton.2 rfl) _⟩
  · go_enter Try.func85, Try.ntmps85
    go_wp2_with fail
    go_end0
    exact ⟨rfl, by have := (H.out.putEnd 2).putPan n; simpa using this, Fr.setCell (p := ⟨c, 5, none⟩) (Fr.setCell (p := ⟨c, 4, none⟩) (Fr.refl _ _) (List.mem_singleton.2 rfl) _) (List.mem_singleton.2 rfl) _⟩
  · go_enter Try.func85, Try.ntmps85
    go_wp2_with fail
    go_end0
    exact ⟨rfl, by have := (H.out.putEnd 3).putEx true; simpa using this, Fr.setCell (p := ⟨c, 6, none⟩) (Fr.setCell (p := ⟨c, 4, none⟩) (Fr.refl _ _) (List.mem_singleton.2 rfl) _) (List.mem_singleton.2 rfl) _⟩
theorem implRecover (w : World) (c fn : Nat) (vv vo : Value) (res en pn : Int) (ex : Bool) (y : Option Nat) (b : Option BEnd) (h : ClB w c fn vv res vo en pn ex y) (hy : ByIn w y b) (hok : ByOk b) (hne : ∀ k, y = some k → k ≠ c) :
    Calls Try.prog 136 #[.pointer (some ⟨c, 0, none⟩)] w (fun e w' => e = .returned (.int .i64 (recv b).1) ∧ Hid (ByUp w w' y b (recv b).2) ∧ Fr y.toList w w') := by
  have c7 := h.cell 7
  have hR := blk_size h
  clear h
  match y, b, hy, hne with
  | none, none, _, _ =>
    simp only [Option.map_none] at c7
    go_enter Try.func136, Try.ntmps136
    go_wp2_with fail
    go_ret
    exact ⟨rfl, Lib.hid trivial, Fr.refl _ _⟩
  | some k, some e, ⟨fn', vv', res', vo', pn', y', hk, hp⟩, hne =>
    simp only [Option.map_some] at c7
    have hkc : k ≠ c := hne k rfl
    have HK := Lib.hid hk
    have c4 := hk.cell 4
    have c5 := hk.cell 5
    have c6 := hk.cell 6
    have z4 := blk_frozen hk 4
    have hkR := blk_size hk
    have HP := Lib.hid hp
    obtain ⟨⟨o1, o2⟩, o3⟩ := hok e rfl
    obtain ⟨how, val, ex'⟩ := e
    simp only at c4 c6 o1 o2 o3
    clear hk hp hne
    by_cases h2 : how = 2
    · subst h2
      cases ex'
      · go_enter Try.func136, Try.ntmps136
        go_wp2_with fail
        go_ret
        exact ⟨ret_int (HP.out (by trivial)), Lib.hid ⟨fun fn vv res vo pn y h => h.putEnd 1, fun h => by simp [recv] at h⟩, Fr.setCell (p := ⟨k, 4, none⟩) (Fr.refl _ _) (by simp) _⟩
      · go_enter Try.func136, Try.ntmps136
        go_wp2_with fail
        go_ret
        refine ⟨ret_int (HP.out (by trivial)), Lib.hid ⟨fun fn vv res vo pn y h => (h.putEnd 1).putEnd 3, fun h => by simp [recv] at h⟩, Fr.setCell (p := ⟨k, 4, none⟩) (Fr.setCell (p := ⟨k, 4, none⟩) (Fr.refl _ _) (by simp) _) (by simp) _⟩
    · have h2b : (how != 2) = true := bne_iff_ne.2 h2
      go_enter Try.func136, Try.ntmps136
      go_wp2_with fail
      go_ret
      have e1 : recv (some ⟨how, val, ex'⟩) = (0, some ⟨how, val, ex'⟩) := by unfold recv; simp only; rw [if_neg h2]
      rw [e1]
      exact ⟨rfl, Lib.hid ⟨fun fn vv res vo pn y h => h, fun h => ⟨h, rfl⟩⟩, Fr.refl _ _⟩
end Go.Proofs.Ytgoinmdnpaknpaa
