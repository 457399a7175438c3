/- slices.Sort of ints: the kit's contract turned to rows. -/
import Derived.Shelf.Sort.Plain
import Derived.Lib.SortBridge
import Derived.Deep.Onto
import Derived.Test.YtgoinmdnpaknpaaGreatSlc
import Derived.Test.YtgoinmdnpaknpaaGreatKit1
set_option linter.unusedVariables false
set_option linter.unusedSimpArgs false
namespace Go.Proofs
open Go.Shelf
def Tryz.lays189_ren : Go.Shelf.Ren := ⟨fun | 189 => 111 | 125 => 116 | 257 => 115 | 128 => 128 | 129 => 129 | 294 => 119 | 295 => 120 | 296 => 121 | 297 => 122 | 298 => 123 | 299 => 124 | 216 => 125 | 300 => 126 | 301 => 127 | 328 => 130 | 329 => 131 | 330 => 132 | 331 => 133 | 332 => 134 | 215 => 135 | 343 => 136 | n => n, fun | 28 => 35 | 3 => 3 | 46 => 43 | 0 => 0 | 51 => 127 | 53 => 48 | 4 => 4 | 183 => 134 | 182 => 133 | 131 => 138 | 5 => 5 | 9 => 9 | 218 => 142 | 222 => 146 | 228 => 148 | 229 => 63 | n => n, fun | n => n⟩
theorem Tryz.lays189 : Go.Proofs.Lays.n189 Tryz.prog Tryz.lays189_ren := {
  mixed := by kernel_rfl
  f125 := Tryz.func116.trans (congrArg some (by kernel_rfl))
  f128 := Tryz.func128.trans (congrArg some (by kernel_rfl))
  f129 := Tryz.func129.trans (congrArg some (by kernel_rfl))
  f189 := Tryz.func111.trans (congrArg some (by kernel_rfl))
  f215 := Tryz.func135.trans (congrArg some (by kernel_rfl))
  f216 := Tryz.func125.trans (congrArg some (by kernel_rfl))
  f257 := Tryz.func115.trans (congrArg some (by kernel_rfl))
  f294 := Tryz.func119.trans (congrArg some (by kernel_rfl))
  f295 := Tryz.func120.trans (congrArg some (by kernel_rfl))
  f296 := Tryz.func121.trans (congrArg some (by kernel_rfl))
  f297 := Tryz.func122.trans (congrArg some (by kernel_rfl))
  f298 := Tryz.func123.trans (congrArg some (by kernel_rfl))
  f299 := Tryz.func124.trans (congrArg some (by kernel_rfl))
  f300 := Tryz.func126.trans (congrArg some (by kernel_rfl))
  f301 := Tryz.func127.trans (congrArg some (by kernel_rfl))
  f328 := Tryz.func130.trans (congrArg some (by kernel_rfl))
  f329 := Tryz.func131.trans (congrArg some (by kernel_rfl))
  f330 := Tryz.func132.trans (congrArg some (by kernel_rfl))
  f331 := Tryz.func133.trans (congrArg some (by kernel_rfl))
  f332 := Tryz.func134.trans (congrArg some (by kernel_rfl))
  f343 := Tryz.func136.trans (congrArg some (by kernel_rfl))
  t0 := Tryz.underlying0
  a0 := Tryz.isAgg0
  z0 := Tryz.sizeOf0
  v0 := Tryz.zeroValue0
  t3 := Tryz.underlying3
  a3 := Tryz.isAgg3
  z3 := Tryz.sizeOf3
  v3 := Tryz.zeroValue3
  t4 := Tryz.underlying4
  a4 := Tryz.isAgg4
  z4 := Tryz.sizeOf4
  v4 := Tryz.zeroValue4
  t5 := Tryz.underlying5
  a5 := Tryz.isAgg5
  z5 := Tryz.sizeOf5
  v5 := Tryz.zeroValue5
  t9 := Tryz.underlying9
  a9 := Tryz.isAgg9
  z9 := Tryz.sizeOf9
  v9 := Tryz.zeroValue9
  t28 := Tryz.underlying35
  a28 := Tryz.isAgg35
  z28 := Tryz.sizeOf35
  v28 := Tryz.zeroValue35
  t46 := Tryz.underlying43
  a46 := Tryz.isAgg43
  z46 := Tryz.sizeOf43
  v46 := Tryz.zeroValue43
  t51 := Tryz.underlying127
  a51 := Tryz.isAgg127
  z51 := Tryz.sizeOf127
  v51 := Tryz.zeroValue127
  t53 := Tryz.underlying48
  a53 := Tryz.isAgg48
  z53 := Tryz.sizeOf48
  v53 := Tryz.zeroValue48
  t131 := Tryz.underlying138
  a131 := Tryz.isAgg138
  z131 := Tryz.sizeOf138
  v131 := Tryz.zeroValue138
  t182 := Tryz.underlying133
  a182 := Tryz.isAgg133
  z182 := Tryz.sizeOf133
  v182 := Tryz.zeroValue133
  t183 := Tryz.underlying134
  a183 := Tryz.isAgg134
  z183 := Tryz.sizeOf134
  v183 := Tryz.zeroValue134
  t218 := Tryz.underlying142
  a218 := Tryz.isAgg142
  z218 := Tryz.sizeOf142
  v218 := Tryz.zeroValue142
  t222 := Tryz.underlying146
  a222 := Tryz.isAgg146
  z222 := Tryz.sizeOf146
  v222 := Tryz.zeroValue146
  t228 := Tryz.underlying148
  a228 := Tryz.isAgg148
  z228 := Tryz.sizeOf148
  v228 := Tryz.zeroValue148
  t229 := Tryz.underlying63
  a229 := Tryz.isAgg63
  z229 := Tryz.sizeOf63
  v229 := Tryz.zeroValue63 }
end Go.Proofs
namespace Go.Proofs.YtgoinmdnpaknpaaGreat
open Go.RowKit Go.Shelf Go.Sort
theorem grow_heap (w : World) (os : Array Obj) {k : Nat} (hk : k < w.heap.size) : (grow w os).heap[k]? = w.heap[k]? := by
  unfold grow
  simp [Array.getElem?_append, hk]
theorem grow_fr {F : List Nat} {a w : World} (h : Fr F a w) (os : Array Obj) : Fr F a (grow w os) :=
  ⟨h.os, h.tape, h.output, Nat.le_trans h.size (by unfold grow; simp), fun k hk hn => (grow_heap w os (Nat.lt_of_lt_of_le hk h.size)).trans (h.block k hk hn)⟩
theorem ownsRow_drewN {w : World} {base : Nat} {e : TypeId} {size n : Nat} {v : Value} {xs : List Value} (h : w.ownsRow base e size v n xs) (q : Nat) : (w.drewN q).ownsRow base e size v n xs := ownsRow_keep0 h fun _ _ => rfl
theorem ownsRow_grow {w : World} {base : Nat} {e : TypeId} {size n : Nat} {v : Value} {xs : List Value} (h : w.ownsRow base e size v n xs) (os : Array Obj) : (grow w os).ownsRow base e size v n xs :=
  ownsRow_keep0 h fun k hk => grow_heap w os (h.lt k hk).2
theorem ownsRow_base {w : World} {b b' : Nat} {e : TypeId} {size n g c : Nat} {xs ys : List Value} (h : w.ownsRow b e size (.slice (some ⟨g, 0, none⟩) n c) n xs) {w' : World} (h' : w'.ownsRow b' e size (.slice (some ⟨g, 0, none⟩) n c) n ys) : w'.ownsRow b e size (.slice (some ⟨g, 0, none⟩) n c) n ys := by
  obtain ⟨h1, h2⟩ := h'
  refine ⟨h1, ?_⟩
  rcases h2 with ⟨h2, _⟩ | ⟨g', cap, cur, hv, hg, r⟩
  · cases h2
  · injection hv with a _ c
    injection a with a
    injection a with a
    subst a c
    exact Or.inr ⟨g, c, cur, rfl, (h.lt g rfl).1, r⟩
theorem sortRow (w : World) (base g n c : Nat) (xs : List Int) (h : w.ownsRow base 3 1 (.slice (some ⟨g, 0, none⟩) n c) n (xs.map (Value.int .i64))) (hn : n < 4611686018427387904) :
    Calls Tryz.prog 111 #[.slice (some ⟨g, 0, none⟩) n c] w fun e w' => e = .returned (.tuple #[]) ∧ w'.ownsRow base 3 1 (.slice (some ⟨g, 0, none⟩) n c) n ((xs.mergeSort fun x y => decide (x ≤ y)).map (Value.int .i64)) ∧ Fr [g] w w' := by
  have hl : xs.length = n := by have := h.1; simpa using this
  subst hl
  have hg := (h.lt g rfl).2
  have hH : Holds (Value.int .i64) w g 0 xs.toArray := by
    intro j hj
    have hj' : j < xs.length := by simpa using hj
    refine ⟨?_, h.frozenAt _⟩
    rw [Nat.zero_add, h.cellAt j (by omega)]
    simp [hj']
  refine (Any.slices_Sort_int Tryz.lays189 g 0 c xs w hH hg hn).mono ?_
  rintro e w' ⟨rfl, q, os, hw⟩
  rw [Lib.sorted_world _ w g 0 q _ _ os hH (by simp) ] at hw
  have hd := ownsRow_drewN h q
  have hs := setCells_rowC (w := w.drewN q) ((xs.mergeSort fun x y => decide (x ≤ y)).map (Value.int .i64)) [] (xs.map (Value.int .i64)) [] 0 (w.drewN q) (by simpa using World.ownsRow.mono hd (Nat.zero_le _)) (by simp) rfl
  simp only [List.nil_append, List.append_nil] at hs
  refine ⟨rfl, ?_, ?_⟩
  · rw [hw]; exact ownsRow_base h (ownsRow_grow hs os)
  · rw [hw]; exact grow_fr (Fr.setCells g (by simp) _ 0 _ (Fr.drewN (Fr.refl _ _) q)) os
end Go.Proofs.YtgoinmdnpaknpaaGreat
