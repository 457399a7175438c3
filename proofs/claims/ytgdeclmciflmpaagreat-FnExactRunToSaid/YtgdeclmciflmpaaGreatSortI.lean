/- slices.Sort of ints: the kit's contract turned to rows. -/
import Derived.Shelf.Sort.Plain
import Derived.Lib.SortBridge
import Derived.Deep.Onto
import Derived.Test.YtgdeclmciflmpaaGreatSlc
import Derived.Test.YtgdeclmciflmpaaGreatKit1
set_option linter.unusedVariables false
set_option linter.unusedSimpArgs false
namespace Go.Proofs
open Go.Shelf
def Tryz.lays189_ren : Go.Shelf.Ren := ⟨fun | 189 => 142 | 125 => 146 | 257 => 145 | 128 => 158 | 129 => 159 | 294 => 149 | 295 => 150 | 296 => 151 | 297 => 152 | 298 => 153 | 299 => 154 | 216 => 155 | 300 => 156 | 301 => 157 | 328 => 160 | 329 => 161 | 330 => 162 | 331 => 163 | 332 => 164 | 215 => 165 | 343 => 166 | n => n, fun | 28 => 25 | 3 => 3 | 46 => 145 | 0 => 0 | 51 => 150 | 53 => 153 | 4 => 4 | 183 => 158 | 182 => 157 | 131 => 86 | 5 => 5 | 9 => 9 | 218 => 165 | 222 => 169 | 228 => 171 | 229 => 138 | n => n, fun | n => n⟩
theorem Tryz.lays189 : Go.Proofs.Lays.n189 Tryz.prog Tryz.lays189_ren := {
  mixed := by kernel_rfl
  f125 := Tryz.func146.trans (congrArg some (by kernel_rfl))
  f128 := Tryz.func158.trans (congrArg some (by kernel_rfl))
  f129 := Tryz.func159.trans (congrArg some (by kernel_rfl))
  f189 := Tryz.func142.trans (congrArg some (by kernel_rfl))
  f215 := Tryz.func165.trans (congrArg some (by kernel_rfl))
  f216 := Tryz.func155.trans (congrArg some (by kernel_rfl))
  f257 := Tryz.func145.trans (congrArg some (by kernel_rfl))
  f294 := Tryz.func149.trans (congrArg some (by kernel_rfl))
  f295 := Tryz.func150.trans (congrArg some (by kernel_rfl))
  f296 := Tryz.func151.trans (congrArg some (by kernel_rfl))
  f297 := Tryz.func152.trans (congrArg some (by kernel_rfl))
  f298 := Tryz.func153.trans (congrArg some (by kernel_rfl))
  f299 := Tryz.func154.trans (congrArg some (by kernel_rfl))
  f300 := Tryz.func156.trans (congrArg some (by kernel_rfl))
  f301 := Tryz.func157.trans (congrArg some (by kernel_rfl))
  f328 := Tryz.func160.trans (congrArg some (by kernel_rfl))
  f329 := Tryz.func161.trans (congrArg some (by kernel_rfl))
  f330 := Tryz.func162.trans (congrArg some (by kernel_rfl))
  f331 := Tryz.func163.trans (congrArg some (by kernel_rfl))
  f332 := Tryz.func164.trans (congrArg some (by kernel_rfl))
  f343 := Tryz.func166.trans (congrArg some (by kernel_rfl))
  t0 := Tryz.underlying0
  a0 := Tryz.isAgg0
  z0 := Tryz.sizeOf0
  v0 := Tryz.zeroValue0
  t3 := Tryz.underlying3
  a3 := Tryz.isAgg3
  z3 := Tryz.sizeOf3
  v3 := Tryz.zeroValue3
  t4 := Tryz.underlying4
  a4 := Tryz.isAgg4
  z4 := Tryz.sizeOf4
  v4 := Tryz.zeroValue4
  t5 := Tryz.underlying5
  a5 := Tryz.isAgg5
  z5 := Tryz.sizeOf5
  v5 := Tryz.zeroValue5
  t9 := Tryz.underlying9
  a9 := Tryz.isAgg9
  z9 := Tryz.sizeOf9
  v9 := Tryz.zeroValue9
  t28 := Tryz.underlying25
  a28 := Tryz.isAgg25
  z28 := Tryz.sizeOf25
  v28 := Tryz.zeroValue25
  t46 := Tryz.underlying145
  a46 := Tryz.isAgg145
  z46 := Tryz.sizeOf145
  v46 := Tryz.zeroValue145
  t51 := Tryz.underlying150
  a51 := Tryz.isAgg150
  z51 := Tryz.sizeOf150
  v51 := Tryz.zeroValue150
  t53 := Tryz.underlying153
  a53 := Tryz.isAgg153
  z53 := Tryz.sizeOf153
  v53 := Tryz.zeroValue153
  t131 := Tryz.underlying86
  a131 := Tryz.isAgg86
  z131 := Tryz.sizeOf86
  v131 := Tryz.zeroValue86
  t182 := Tryz.underlying157
  a182 := Tryz.isAgg157
  z182 := Tryz.sizeOf157
  v182 := Tryz.zeroValue157
  t183 := Tryz.underlying158
  a183 := Tryz.isAgg158
  z183 := Tryz.sizeOf158
  v183 := Tryz.zeroValue158
  t218 := Tryz.underlying165
  a218 := Tryz.isAgg165
  z218 := Tryz.sizeOf165
  v218 := Tryz.zeroValue165
  t222 := Tryz.underlying169
  a222 := Tryz.isAgg169
  z222 := Tryz.sizeOf169
  v222 := Tryz.zeroValue169
  t228 := Tryz.underlying171
  a228 := Tryz.isAgg171
  z228 := Tryz.sizeOf171
  v228 := Tryz.zeroValue171
  t229 := Tryz.underlying138
  a229 := Tryz.isAgg138
  z229 := Tryz.sizeOf138
  v229 := Tryz.zeroValue138 }
end Go.Proofs
namespace Go.Proofs.YtgdeclmciflmpaaGreat
open Go.RowKit Go.Shelf Go.Sort
theorem grow_heap (w : World) (os : Array Obj) {k : Nat} (hk : k < w.heap.size) : (grow w os).heap[k]? = w.heap[k]? := by
  unfold grow
  simp [Array.getElem?_append, hk]
theorem grow_fr {F : List Nat} {a w : World} (h : Fr F a w) (os : Array Obj) : Fr F a (grow w os) :=
  ⟨h.os, h.tape, h.output, Nat.le_trans h.size (by unfold grow; simp), fun k hk hn => (grow_heap w os (Nat.lt_of_lt_of_le hk h.size)).trans (h.block k hk hn)⟩
theorem ownsRow_drewN {w : World} {base : Nat} {e : TypeId} {size n : Nat} {v : Value} {xs : List Value} (h : w.ownsRow base e size v n xs) (q : Nat) : (w.drewN q).ownsRow base e size v n xs := ownsRow_keep0 h fun _ _ => rfl
theorem ownsRow_grow {w : World} {base : Nat} {e : TypeId} {size n : Nat} {v : Value} {xs : List Value} (h : w.ownsRow base e size v n xs) (os : Array Obj) : (grow w os).ownsRow base e size v n xs :=
  ownsRow_keep0 h fun k hk => grow_heap w os (h.lt k hk).2
theorem ownsRow_base {w : World} {b b' : Nat} {e : TypeId} {size n g c : Nat} {xs ys : List Value} (h : w.ownsRow b e size (.slice (some ⟨g, 0, none⟩) n c) n xs) {w' : World} (h' : w'.ownsRow b' e size (.slice (some ⟨g, 0, none⟩) n c) n ys) : w'.ownsRow b e size (.slice (some ⟨g, 0, none⟩) n c) n ys := by
  obtain ⟨h1, h2⟩ := h'
  refine ⟨h1, ?_⟩
  rcases h2 with ⟨h2, _⟩ | ⟨g', cap, cur, hv, hg, r⟩
  · cases h2
  · injection hv with a _ c
    injection a with a
    injection a with a
    subst a c
    exact Or.inr ⟨g, c, cur, rfl, (h.lt g rfl).1, r⟩
theorem sortRow (w : World) (base g n c : Nat) (xs : List Int) (h : w.ownsRow base 3 1 (.slice (some ⟨g, 0, none⟩) n c) n (xs.map (Value.int .i64))) (hn : n < 4611686018427387904) :
    Calls Tryz.prog 142 #[.slice (some ⟨g, 0, none⟩) n c] w fun e w' => e = .returned (.tuple #[]) ∧ w'.ownsRow base 3 1 (.slice (some ⟨g, 0, none⟩) n c) n ((xs.mergeSort fun x y => decide (x ≤ y)).map (Value.int .i64)) ∧ Fr [g] w w' := by
  have hl : xs.length = n := by have := h.1; simpa using this
  subst hl
  have hg := (h.lt g rfl).2
  have hH : Holds (Value.int .i64) w g 0 xs.toArray := by
    intro j hj
    have hj' : j < xs.length := by simpa using hj
    refine ⟨?_, h.frozenAt _⟩
    rw [Nat.zero_add, h.cellAt j (by omega)]
    simp [hj']
  refine (Any.slices_Sort_int Tryz.lays189 g 0 c xs w hH hg hn).mono ?_
  rintro e w' ⟨rfl, q, os, hw⟩
  rw [Lib.sorted_world _ w g 0 q _ _ os hH (by simp) ] at hw
  have hd := ownsRow_drewN h q
  have hs := setCells_rowC (w := w.drewN q) ((xs.mergeSort fun x y => decide (x ≤ y)).map (Value.int .i64)) [] (xs.map (Value.int .i64)) [] 0 (w.drewN q) (by simpa using World.ownsRow.mono hd (Nat.zero_le _)) (by simp) rfl
  simp only [List.nil_append, List.append_nil] at hs
  refine ⟨rfl, ?_, ?_⟩
  · rw [hw]; exact ownsRow_base h (ownsRow_grow hs os)
  · rw [hw]; exact grow_fr (Fr.setCells g (by simp) _ 0 _ (Fr.drewN (Fr.refl _ _) q)) os
end Go.Proofs.YtgdeclmciflmpaaGreat
