/- A list of ints in memory of the call's own: walks of both sides. -/
import Derived.Test.YtgdeclmciflmpaaGreatFlatK
import Derived.Test.YtgdeclmciflmpaaGreatNext
import Derived.Test.YtgdeclmciflmpaaGreatSlc
set_option linter.unusedVariables false
set_option linter.unusedSimpArgs false
set_option maxRecDepth 100000
namespace Go.Proofs.YtgdeclmciflmpaaGreat
open Go.RowKit
section
variable {w w' : World}
theorem IntRow.keepR {b : Nat} {v : Value} {l : List Int} (h : IntRow w b v l) (hk : ∀ k, b ≤ k → k < w.heap.size → v.ownBlock = some k → w'.heap[k]? = w.heap[k]?) : IntRow w' b v l := ownsRow_keep0 h fun k e => hk k (World.ownsRow.lt h k e).1 (World.ownsRow.lt h k e).2 e
end
theorem blk_frozen {w : World} {b : Nat} {cs : Array Value} {t : TypeId} (h : w.heap[b]? = some (.cells cs t)) (j : Nat) : w.frozen? ⟨b, j, none⟩ = false := by simp [World.frozen?, h]
theorem blk_size {w : World} {b : Nat} {o : Obj} (h : w.heap[b]? = some o) : b < w.heap.size := (Array.getElem?_eq_some_iff.1 h).1
theorem below_frozen {w w' : World} {p : Addr} (hb : Below w.heap.size w w') (hp : p.block < w.heap.size) (h : w.frozen? p = false) : w'.frozen? p = false := (hb.frozen (p := p) hp).trans h
theorem below_at {w w' : World} {n b : Nat} {x : Obj} (hb : Below n w w') (hn : b < n) (h : w.heap[b]? = some x) : w'.heap[b]? = some x := (hb.block b hn).trans h
theorem alloc_new' {w : World} {o : Obj} {X : Nat} (h : w.heap.size = X) : (w.alloc o).heap[X]? = some o := by subst h; exact heap_alloc_new w o
theorem heap_drew (w : World) : w.drew.heap = w.heap := rfl
theorem size_alloc (w : World) (o : Obj) : (w.alloc o).heap.size = w.heap.size + 1 := by simp
theorem alloc_lt {w : World} {o : Obj} {k : Nat} (h : k < w.heap.size) : (w.alloc o).heap[k]? = w.heap[k]? := (Below.alloc (Below.refl w.heap.size w) (Nat.le_refl _) o).block k h
theorem specL1Own (w : World) (lo hi : Nat) (A : Option Addr) (n c : Nat) (l : List Int) (h : Sl intR w lo hi A n c l) (hh : hi ≤ w.heap.size) (hn : n ≤ 1048576) :
    Calls Tryz.prog 45 #[.slice A n c] w (RetInts l w) := by
  obtain ⟨inf, hif, hz0, hz1, hz2⟩ := info_parts Tryz.infoInt
  have HL := Lib.hid h.lenEq
  have hs2 := src_ints ((h.more (Nat.zero_le lo) hh).below (show Below w.heap.size w (w.alloc (.cells #[] 3)) by exact belA) (Nat.le_refl _))
  go_enter Tryz.func45, Tryz.ntmps45
  go_wp2_with (at_builtin; refine wpList_append_src _ rfl _ _ 25 rfl w.heap.size 3 inf (.int .i64 0) 1 8 Tryz.underlying25 hif hz0 hz1 hz2 rfl (by decide) (.slice (some ⟨w.heap.size, 0, none⟩) 0 0) 0 [] rfl (World.ownsRow_made w #[] 0 (Nat.le_refl _) (by decide) (by simp)) A n c (l.map (Value.int .i64)) rfl hs2 (ints_oneCell l) (by unfold maxLen; omega) (by omega) (by simp) ?_)
  intro v' w' hown hgr hat
  rw [← HL.out] at hown
  have hb : Below w.heap.size w w' := (show Below w.heap.size w (w.alloc (.cells #[] 3)) by exact belA).grown hgr (by simp) (fun g hg => by simp [Value.ownBlock] at hg; omega)
  clear hgr hat
  go_wp2_with fail
  go_ret
  exact ⟨v', rfl, hown, hb⟩
end Go.Proofs.YtgdeclmciflmpaaGreat
