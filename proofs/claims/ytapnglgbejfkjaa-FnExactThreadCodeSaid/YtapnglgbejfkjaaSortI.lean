/- slices.Sort of ints: the kit's contract turned to rows. -/
import Derived.Shelf.Sort.Plain
import Derived.Lib.SortBridge
import Derived.Deep.Onto
import Derived.Test.YtapnglgbejfkjaaSlc
import Derived.Test.YtapnglgbejfkjaaKit1
set_option linter.unusedVariables false
set_option linter.unusedSimpArgs false
namespace Go.Proofs
open Go.Shelf
def Try.lays189_ren : Go.Shelf.Ren := ⟨fun | 189 => 153 | 125 => 185 | 257 => 184 | 128 => 206 | 129 => 207 | 294 => 197 | 295 => 198 | 296 => 199 | 297 => 200 | 298 => 201 | 299 => 202 | 216 => 203 | 300 => 204 | 301 => 205 | 328 => 215 | 329 => 216 | 330 => 217 | 331 => 218 | 332 => 219 | 215 => 220 | 343 => 229 | n => n, fun | 28 => 30 | 3 => 3 | 46 => 189 | 0 => 0 | 51 => 246 | 53 => 125 | 4 => 4 | 183 => 240 | 182 => 239 | 131 => 52 | 5 => 5 | 9 => 9 | 218 => 253 | 222 => 257 | 228 => 265 | 229 => 171 | n => n, fun | n => n⟩
theorem Try.lays189 : Go.Proofs.Lays.n189 Try.prog Try.lays189_ren := {
  mixed := by kernel_rfl
  f125 := Try.func185.trans (congrArg some (by kernel_rfl))
  f128 := Try.func206.trans (congrArg some (by kernel_rfl))
  f129 := Try.func207.trans (congrArg some (by kernel_rfl))
  f189 := Try.func153.trans (congrArg some (by kernel_rfl))
  f215 := Try.func220.trans (congrArg some (by kernel_rfl))
  f216 := Try.func203.trans (congrArg some (by kernel_rfl))
  f257 := Try.func184.trans (congrArg some (by kernel_rfl))
  f294 := Try.func197.trans (congrArg some (by kernel_rfl))
  f295 := Try.func198.trans (congrArg some (by kernel_rfl))
  f296 := Try.func199.trans (congrArg some (by kernel_rfl))
  f297 := Try.func200.trans (congrArg some (by kernel_rfl))
  f298 := Try.func201.trans (congrArg some (by kernel_rfl))
  f299 := Try.func202.trans (congrArg some (by kernel_rfl))
  f300 := Try.func204.trans (congrArg some (by kernel_rfl))
  f301 := Try.func205.trans (congrArg some (by kernel_rfl))
  f328 := Try.func215.trans (congrArg some (by kernel_rfl))
  f329 := Try.func216.trans (congrArg some (by kernel_rfl))
  f330 := Try.func217.trans (congrArg some (by kernel_rfl))
  f331 := Try.func218.trans (congrArg some (by kernel_rfl))
  f332 := Try.func219.trans (congrArg some (by kernel_rfl))
  f343 := Try.func229.trans (congrArg some (by kernel_rfl))
  t0 := Try.underlying0
  a0 := Try.isAgg0
  z0 := Try.sizeOf0
  v0 := Try.zeroValue0
  t3 := Try.underlying3
  a3 := Try.isAgg3
  z3 := Try.sizeOf3
  v3 := Try.zeroValue3
  t4 := Try.underlying4
  a4 := Try.isAgg4
  z4 := Try.sizeOf4
  v4 := Try.zeroValue4
  t5 := Try.underlying5
  a5 := Try.isAgg5
  z5 := Try.sizeOf5
  v5 := Try.zeroValue5
  t9 := Try.underlying9
  a9 := Try.isAgg9
  z9 := Try.sizeOf9
  v9 := Try.zeroValue9
  t28 := Try.underlying30
  a28 := Try.isAgg30
  z28 := Try.sizeOf30
  v28 := Try.zeroValue30
  t46 := Try.underlying189
  a46 := Try.isAgg189
  z46 := Try.sizeOf189
  v46 := Try.zeroValue189
  t51 := Try.underlying246
  a51 := Try.isAgg246
  z51 := Try.sizeOf246
  v51 := Try.zeroValue246
  t53 := Try.underlying125
  a53 := Try.isAgg125
  z53 := Try.sizeOf125
  v53 := Try.zeroValue125
  t131 := Try.underlying52
  a131 := Try.isAgg52
  z131 := Try.sizeOf52
  v131 := Try.zeroValue52
  t182 := Try.underlying239
  a182 := Try.isAgg239
  z182 := Try.sizeOf239
  v182 := Try.zeroValue239
  t183 := Try.underlying240
  a183 := Try.isAgg240
  z183 := Try.sizeOf240
  v183 := Try.zeroValue240
  t218 := Try.underlying253
  a218 := Try.isAgg253
  z218 := Try.sizeOf253
  v218 := Try.zeroValue253
  t222 := Try.underlying257
  a222 := Try.isAgg257
  z222 := Try.sizeOf257
  v222 := Try.zeroValue257
  t228 := Try.underlying265
  a228 := Try.isAgg265
  z228 := Try.sizeOf265
  v228 := Try.zeroValue265
  t229 := Try.underlying171
  a229 := Try.isAgg171
  z229 := Try.sizeOf171
  v229 := Try.zeroValue171 }
end Go.Proofs
namespace Go.Proofs.Ytapnglgbejfkjaa
open Go.RowKit Go.Shelf Go.Sort
theorem grow_heap (w : World) (os : Array Obj) {k : Nat} (hk : k < w.heap.size) : (grow w os).heap[k]? = w.heap[k]? := by
  unfold grow
  simp [Array.getElem?_append, hk]
theorem grow_fr {F : List Nat} {a w : World} (h : Fr F a w) (os : Array Obj) : Fr F a (grow w os) :=
  ⟨h.os, h.tape, h.output, Nat.le_trans h.size (by unfold grow; simp), fun k hk hn => (grow_heap w os (Nat.lt_of_lt_of_le hk h.size)).trans (h.block k hk hn)⟩
theorem ownsRow_drewN {w : World} {base : Nat} {e : TypeId} {size n : Nat} {v : Value} {xs : List Value} (h : w.ownsRow base e size v n xs) (q : Nat) : (w.drewN q).ownsRow base e size v n xs := ownsRow_keep0 h fun _ _ => rfl
theorem ownsRow_grow {w : World} {base : Nat} {e : TypeId} {size n : Nat} {v : Value} {xs : List Value} (h : w.ownsRow base e size v n xs) (os : Array Obj) : (grow w os).ownsRow base e size v n xs :=
  ownsRow_keep0 h fun k hk => grow_heap w os (h.lt k hk).2
theorem ownsRow_base {w : World} {b b' : Nat} {e : TypeId} {size n g c : Nat} {xs ys : List Value} (h : w.ownsRow b e size (.slice (some ⟨g, 0, none⟩) n c) n xs) {w' : World} (h' : w'.ownsRow b' e size (.slice (some ⟨g, 0, none⟩) n c) n ys) : w'.ownsRow b e size (.slice (some ⟨g, 0, none⟩) n c) n ys := by
  obtain ⟨h1, h2⟩ := h'
  refine ⟨h1, ?_⟩
  rcases h2 with ⟨h2, _⟩ | ⟨g', cap, cur, hv, hg, r⟩
  · cases h2
  · injection hv with a _ c
    injection a with a
    injection a with a
    subst a c
    exact Or.inr ⟨g, c, cur, rfl, (h.lt g rfl).1, r⟩
theorem sortRow (w : World) (base g n c : Nat) (xs : List Int) (h : w.ownsRow base 3 1 (.slice (some ⟨g, 0, none⟩) n c) n (xs.map (Value.int .i64))) (hn : n < 4611686018427387904) :
    Calls Try.prog 153 #[.slice (some ⟨g, 0, none⟩) n c] w fun e w' => e = .returned (.tuple #[]) ∧ w'.ownsRow base 3 1 (.slice (some ⟨g, 0, none⟩) n c) n ((xs.mergeSort fun x y => decide (x ≤ y)).map (Value.int .i64)) ∧ Fr [g] w w' := by
  have hl : xs.length = n := by have := h.1; simpa using this
  subst hl
  have hg := (h.lt g rfl).2
  have hH : Holds (Value.int .i64) w g 0 xs.toArray := by
    intro j hj
    have hj' : j < xs.length := by simpa using hj
    refine ⟨?_, h.frozenAt _⟩
    rw [Nat.zero_add, h.cellAt j (by omega)]
    simp [hj']
  refine (Any.slices_Sort_int Try.lays189 g 0 c xs w hH hg hn).mono ?_
  rintro e w' ⟨rfl, q, os, hw⟩
  rw [Lib.sorted_world _ w g 0 q _ _ os hH (by simp) ] at hw
  have hd := ownsRow_drewN h q
  have hs := setCells_rowC (w := w.drewN q) ((xs.mergeSort fun x y => decide (x ≤ y)).map (Value.int .i64)) [] (xs.map (Value.int .i64)) [] 0 (w.drewN q) (by simpa using World.ownsRow.mono hd (Nat.zero_le _)) (by simp) rfl
  simp only [List.nil_append, List.append_nil] at hs
  refine ⟨rfl, ?_, ?_⟩
  · rw [hw]; exact ownsRow_base h (ownsRow_grow hs os)
  · rw [hw]; exact grow_fr (Fr.setCells g (by simp) _ 0 _ (Fr.drewN (Fr.refl _ _) q)) os
end Go.Proofs.Ytapnglgbejfkjaa
