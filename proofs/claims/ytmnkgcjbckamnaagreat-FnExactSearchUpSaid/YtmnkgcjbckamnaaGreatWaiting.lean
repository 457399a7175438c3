/- The put-off calls that wait in a frame: both sides. Walks. -/
import Derived.Test.YtmnkgcjbckamnaaGreatTyVx
import Derived.Test.YtmnkgcjbckamnaaGreatKit1
import Derived.Deep.Onto
set_option linter.unusedVariables false
set_option linter.unusedSimpArgs false
set_option linter.unnecessarySimpa false
set_option maxRecDepth 100000
namespace Go.Proofs.YtmnkgcjbckamnaaGreat
open Go.RowKit

/-- The places from k on that say yes, rising. -/
def yes (l : List Bool) (k : Nat) : List Int := ((List.range' k (l.length - k)).filter fun i => l.getD i false).map fun (i : Nat) => (i : Int)
theorem yes_end (l : List Bool) (k : Nat) (h : l.length ≤ k) : yes l k = [] := by simp [yes, Nat.sub_eq_zero_of_le h]
theorem yes_step (l : List Bool) (k : Nat) (h : k < l.length) : yes l k = (if l[k] = true then [(k : Int)] else []) ++ yes l (k + 1) := by
  unfold yes
  rw [show l.length - k = (l.length - (k + 1)) + 1 by omega, List.range'_succ, List.filter_cons]
  have : l.getD k false = l[k] := by simp [List.getD, h]
  rw [this]
  split <;> simp
theorem yes_len (l : List Bool) (k : Nat) : (yes l k).length ≤ l.length - k := by
  unfold yes; rw [List.length_map]
  exact Nat.le_trans (List.length_filter_le _ _) (by simp)
theorem yes_mem (l : List Bool) (k : Nat) : ∀ x, x ∈ yes l k → 0 ≤ x ∧ x < (l.length : Int) := by
  intro x hx
  unfold yes at hx
  obtain ⟨i, hi, rfl⟩ := List.mem_map.1 hx
  have := List.mem_range'_1.1 (List.mem_filter.1 hi).1
  omega
def yesUp (l : List Bool) (k : Nat) : List Int := (yes (l.take k) 0)
theorem filter_range_take (l : List Bool) (k : Nat) (hk : k ≤ l.length) : (List.range' 0 k).filter (fun i => (l.take k).getD i false) = (List.range' 0 k).filter (fun i => l.getD i false) := by
  apply List.filter_congr
  intro i hi
  have := List.mem_range'_1.1 hi
  simp only [List.getD, List.getElem?_take]
  rw [if_pos (by omega)]
theorem yesUp_step (l : List Bool) (k : Nat) (h : k < l.length) : yesUp l (k + 1) = yesUp l k ++ (if l[k] = true then [(k : Int)] else []) := by
  unfold yesUp yes
  rw [List.length_take, List.length_take, Nat.min_eq_left (by omega), Nat.min_eq_left (by omega), Nat.sub_zero, Nat.sub_zero, filter_range_take l (k + 1) (by omega), filter_range_take l k (by omega), List.range'_1_concat, List.filter_append, List.map_append]
  congr 1
  have : l.getD (0 + k) false = l[k] := by simp [List.getD, h]
  rw [List.filter_cons, this]
  split <;> simp
def waitF (l : List Bool) : List Int := (yes l 0).reverse

set_option maxHeartbeats 1000000 in
theorem specL9Waiting (w : World) (lo hi : Nat) (x0 x1 x2 : Int) (v3 v4 : Value) (A : Option Addr) (n c : Nat) (l : List Bool) (x6 x7 x8 x9 : Int) (y10 : Bool) (h : Sl boolR w lo hi A n c l) (hh : hi ≤ w.heap.size) (hn : n ≤ 1048576) :
    Calls Tryz.prog 104 #[.agg #[.int .i64 x0, .int .i64 x1, .int .i64 x2, v3, v4, .slice A n c, .int .i64 x6, .int .i64 x7, .int .i64 x8, .int .i64 x9, .bool y10]] w (RetOwn intR 3 (waitF l) w) := by
  have e1 := h.lenEq
  obtain ⟨inf, hif, hz0, hz1, hz2⟩ := info_parts Tryz.infoInt
  go_enter Tryz.func104, Tryz.ntmps104
  go_wp2_with fail
  go_loopw [3, 4] (fun v i wr => ∃ k : Nat, k ≤ n ∧ i = .int .i64 ((k : Int) - 1) ∧ wr.ownsRow (w.heap.size + 1) 3 1 v (yes l k).reverse.length ((yes l k).reverse.map (Value.int .i64)) ∧ wr.cell? ⟨w.heap.size, 5, none⟩ = some (.slice A n c) ∧ Below w.heap.size w wr) (fun _ i _ => (intOf i + 1).toNat)
  case atStart => exact ⟨n, Nat.le_refl _, rfl, by rw [yes_end l n (by omega)]; exact World.ownsRow_nil _ _ _ _, by simp [go_sem], by (repeat (first | with_reducible exact Below.refl _ _ | with_reducible assumption | with_reducible refine below_alloc ?_ _ | ((with_reducible refine Below.setCell ?_ ?_ _); rotate_left; (· first | exact Nat.le_refl _ | (simp; done) | (simp; omega))) | with_reducible refine below_drewN ?_ _ | with_reducible refine Below.drew ?_ | with_reducible refine below_then ?_ (by with_reducible assumption)))⟩
  case round =>
    obtain ⟨k, hk, rfl, ho, kc, hb⟩ := hrel
    cases k with
    | zero =>
      have hyl := yes_mem l 0
      go_wp2_with fail
      go_ret
      exact RetOwn.ints (ho.mono (Nat.le_succ _)) (fun x hx => by have := hyl x (by unfold waitF at hx; simpa using hx); unfold I64; omega) hb
    | succ j =>
      have e0 : ((j + 1 : Nat) : Int) - 1 = (j : Int) := by omega
      rw [e0]
      clear e0
      obtain ⟨b, o, rfl, _, _, hc1, _⟩ := (h.below hb hh).bool_at (k := j) (by omega)
      have hs := Lib.hid (yes_step l j (by omega))
      have hln := Lib.hid (yes_len l (j + 1))
      have hbs := hb.size
      generalize hq0 : l[j]'(by omega) = q at hc1
      have hq := Lib.hid hq0
      clear hq0
      cases q
      · have hs2 : (yes l j).reverse = (yes l (j + 1)).reverse := by rw [hs.out, hq.out]; simp
        rw [← hs2] at ho
        clear hs2
        go_wp2_with fail
        go_roundw
        case rel => exact ⟨j, by omega, rfl, ho, kc, hb⟩
        case measure => first | (simp [intOf]; done) | (simp [intOf]; omega)
      · have hs2 := Lib.hid (show (yes l j).reverse = (yes l (j + 1)).reverse ++ [(j : Int)] by rw [hs.out, hq.out]; simp)
        have hl2 := hln.out
        have hl3 : (yes l (j + 1)).reverse.length = (yes l (j + 1)).length := by simp
        go_wp2_with (at_builtin; go_loud (refine wpList_append_own _ rfl _ _ 26 rfl (w.heap.size + 1) 3 inf (.int .i64 0) 1 8 Tryz.underlying26 hif hz0 hz1 hz2 rfl (by decide) _ _ _ rfl (ho.alloc _) ⟨wr.heap.size, 0, none⟩ 1 1 [.int .i64 j] rfl rfl (cell_new1 _ _ _ (by simp)) (by simp [Value.oneCell']) (by unfold maxLen; omega) (by omega) (by simp; omega) ?_))
        intro v' w2 hown hgr _
        have hb2 := below_own (ho.mono (Nat.le_succ _)) hgr (by (repeat (first | with_reducible exact Below.refl _ _ | with_reducible assumption | with_reducible refine below_alloc ?_ _ | ((with_reducible refine Below.setCell ?_ ?_ _); rotate_left; (· first | exact Nat.le_refl _ | (simp; done) | (simp; omega))) | with_reducible refine below_drewN ?_ _ | with_reducible refine Below.drew ?_ | with_reducible refine below_then ?_ (by with_reducible assumption))))
        have ho2 : w2.ownsRow (w.heap.size + 1) 3 1 v' (yes l j).reverse.length ((yes l j).reverse.map (Value.int .i64)) := by
          rw [hs2.out]; simpa using hown
        have kc2 : w2.cell? ⟨w.heap.size, 5, none⟩ = some (.slice (some ⟨b, o, none⟩) n c) := by
          have hlt : w.heap.size < wr.heap.size := World.block_lt_of_cell? wr _ kc
          rw [World.cell?_of_block (w := wr.alloc (.cells #[.int .i64 (j : Int)] 3)) (hgr.block _ (by simp; omega) (fun e => by exact absurd (ho.lt w.heap.size e.symm).1 (Nat.not_succ_le_self _)))]
          rw [World.cell?_alloc_past _ _ _ hlt]
          exact kc
        clear hown hgr ho
        go_wp2
        go_roundw
        case rel => exact ⟨j, by omega, rfl, ho2, kc2, hb2⟩
        case measure => first | (simp [intOf]; done) | (simp [intOf]; omega)

def waitOk (l : List Frame) (i : Int) : Bool := decide (l.length ≤ 40) && inB i 0 ((l.length : Int) - 1)
def waitR (l : List Frame) (i : Int) : List Int := if waitOk l i = true then (l[i.toNat]?.map fun f => waitF f.2.2.2.2.2.1).getD [] else []
theorem waitR_no {l : List Frame} {i : Int} (h : waitOk l i = false) : waitR l i = [] := by simp [waitR, h]
theorem waitR_yes {l : List Frame} {k : Nat} (h : waitOk l (k : Int) = true) (hk : k < l.length) : waitR l (k : Int) = waitF (l[k]).2.2.2.2.2.1 := by
  simp [waitR, h, hk]


theorem yesUp_end (l : List Bool) (k : Nat) (h : l.length ≤ k) : yesUp l k = yes l 0 := by unfold yesUp; rw [List.take_of_length_le h]
theorem yesUp_len (l : List Bool) (k : Nat) : (yesUp l k).length ≤ l.length := by
  have := yes_len (l.take k) 0
  unfold yesUp; simp at this; omega

theorem ownsRow_form {w : World} {base : Nat} {e : TypeId} {size n : Nat} {v : Value} {xs : List Value} (h : w.ownsRow base e size v n xs) : ∃ A c, v = .slice A n c := by
  rcases h.2 with ⟨rfl, rfl⟩ | ⟨g, cap, cur, rfl, _⟩
  · exact ⟨_, _, rfl⟩
  · exact ⟨_, _, rfl⟩


theorem waitR_le (l : List Frame) (i : Int) : (waitR l i).length ≤ mszLFrame l := by
  unfold waitR
  split
  · rcases h : l[i.toNat]? with _ | f
    · simp
    · have hm := List.mem_of_getElem? h
      have h1 := mem_sum_le (f := mszFrame) hm
      have h2 := yes_len f.2.2.2.2.2.1 0
      simp only [Option.map_some, Option.getD_some, waitF, List.length_reverse]
      unfold mszLFrame
      have h3 : f.2.2.2.2.2.1.length ≤ mszFrame f := by unfold mszFrame; omega
      omega
  · simp
end Go.Proofs.YtmnkgcjbckamnaaGreat
