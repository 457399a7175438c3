/- The checksum of a text: the reference's and the program's function compute one fold. Walks. -/
import Derived.Test.YtikffchdembbjaaRows
import Derived.WalkKit
import Derived.WalkSpells
import Derived.Lib.Hide
set_option linter.unusedVariables false
set_option linter.unusedSimpArgs false
namespace Go.Proofs.Ytikffchdembbjaa
open Go.RowKit

def sumStep (n : Int) (c : UInt8) : Int := (37 * n + (c.toNat : Int)) % 65521
def sumF (l : List UInt8) : Int := l.foldl sumStep 3
theorem sumF_bd (l : List UInt8) : 0 ≤ sumF l ∧ sumF l < 65521 := by
  have h : ∀ (l : List UInt8) (n : Int), 0 ≤ n → n < 65521 → 0 ≤ l.foldl sumStep n ∧ l.foldl sumStep n < 65521 := by
    intro l
    induction l with
    | nil => intro n h1 h2; exact ⟨h1, h2⟩
    | cons c l ih => intro n h1 h2; exact ih _ (by unfold sumStep; omega) (by unfold sumStep; omega)
  exact h l 3 (by omega) (by omega)
theorem take_snoc (s : ByteArray) (k : Nat) (h : k < s.size) : s.data.toList.take (k + 1) = s.data.toList.take k ++ [s[k]] := by
  rw [List.take_succ_eq_append_getElem (by simpa using h)]; rfl
theorem sumF_snoc (l : List UInt8) (c : UInt8) : sumF (l ++ [c]) = (37 * sumF l + (c.toNat : Int)) % 65521 := by
  unfold sumF; rw [List.foldl_append]; rfl
theorem ret_int {k : IntKind} {a b : Int} (h : a = b) : Ending.returned (.int k a) = .returned (.int k b) := by rw [h]

theorem wrap_small {n : Int} (h1 : 0 ≤ n) (h2 : n < 9223372036854775808) : wrap64 n = n := by unfold wrap64; omega
theorem byte_bd (c : UInt8) : (0 : Int) ≤ (c.toNat : Int) ∧ (c.toNat : Int) < 256 := by have := c.toNat_lt; omega
theorem sum_turn (a : Int) (c : UInt8) (h : 0 ≤ a ∧ a < 65521) : (wrap64 (37 * a + wrap64 (c.toNat : Int))).tmod 65521 = (37 * a + (c.toNat : Int)) % 65521 := by
  have hc := byte_bd c
  rw [wrap_small (n := (c.toNat : Int)) (by omega) (by omega), wrap_small (by omega) (by omega), Int.tmod_eq_emod_of_nonneg (by omega)]

theorem implsumOf (s : ByteArray) (w : World) (hs : s.size ≤ maxLen) :
    Calls Try.prog 60 #[.string s] w fun e w' => e = .returned (.int .i64 (sumF s.data.toList)) ∧ w = w' := by
  unfold maxLen at hs
  go_enter Try.func60, Try.ntmps60
  go_wp2
  go_loop [3, 7] (fun n i => ∃ k : Nat, k ≤ s.size ∧ i = .int .i64 k ∧ n = .int .i64 (sumF (s.data.toList.take k))) (fun _ i => s.size - (intOf i).toNat)
  case atStart => exact ⟨0, Nat.zero_le _, rfl, rfl⟩
  case round =>
    obtain ⟨k, hk, rfl, rfl⟩ := hrel
    have hb := sumF_bd (s.data.toList.take k)
    by_cases hlt : k < s.size
    · have HS := Lib.hid (sumF_snoc (s.data.toList.take k) s[k])
      have HT := Lib.hid (take_snoc s k hlt)
      go_wp2
      go_round
      case rel => exact ⟨k + 1, by omega, by go_num, by rw [HT.out, HS.out, sum_turn _ _ hb]⟩
      case measure => simp [intOf]; omega
    · go_wp2
      go_ret
      exact ⟨ret_int (by rw [List.take_of_length_le (by simp; omega)]), rfl⟩
theorem specL12Sum (s : ByteArray) (w : World) (hs : s.size ≤ maxLen) :
    Calls Try.prog 59 #[.string s] w fun e w' => e = .returned (.int .i64 (sumF s.data.toList)) ∧ w = w' := by
  unfold maxLen at hs
  go_enter Try.func59, Try.ntmps59
  go_wp2
  go_loop [3, 4] (fun n i => ∃ k : Nat, k ≤ s.size ∧ i = .int .i64 k ∧ n = .int .i64 (sumF (s.data.toList.take k))) (fun _ i => s.size - (intOf i).toNat)
  case atStart => exact ⟨0, Nat.zero_le _, rfl, rfl⟩
  case round =>
    obtain ⟨k, hk, rfl, rfl⟩ := hrel
    have hb := sumF_bd (s.data.toList.take k)
    by_cases hlt : k < s.size
    · have HS := Lib.hid (sumF_snoc (s.data.toList.take k) s[k])
      have HT := Lib.hid (take_snoc s k hlt)
      go_wp2
      go_round
      case rel => exact ⟨k + 1, by omega, by go_num, by rw [HT.out, HS.out, sum_turn _ _ hb]⟩
      case measure => simp [intOf]; omega
    · go_wp2
      go_ret
      exact ⟨ret_int (by rw [List.take_of_length_le (by simp; omega)]), rfl⟩

def sumV (s : ByteArray) : Int := if s.size ≤ 2000 then sumF s.data.toList else 0
def sumB (s : ByteArray) : Bool := decide (s.size ≤ 2000)
theorem specSumOf (s : ByteArray) (w : World) (hs : s.size ≤ maxLen) :
    Calls Try.prog 14 #[.string s] w fun e w' => e = .returned (.tuple #[.int .i64 (sumV s), .bool (sumB s)]) ∧ w = w' := by
  have hs' := hs
  unfold maxLen at hs
  by_cases h : s.size ≤ 2000
  · rw [show sumV s = sumF s.data.toList from if_pos h, show sumB s = true from decide_eq_true h]
    have h1 : decide ((2000 : Int) < (s.size : Int)) = false := by simp; omega
    go_enter Try.func14, Try.ntmps14
    go_wp2_with fail
    refine (specL12Sum s _ hs').mono ?_
    rintro e w' ⟨rfl, rfl⟩
    go_wp2_with fail
    go_ret2
    exact ⟨rfl, rfl⟩
  · rw [show sumV s = 0 from if_neg h, show sumB s = false from decide_eq_false h]
    have h1 : decide ((2000 : Int) < (s.size : Int)) = true := by simp; omega
    go_enter Try.func14, Try.ntmps14
    go_wp2_with fail
    go_ret2
    exact ⟨rfl, rfl⟩
theorem implSumOfX (s : ByteArray) (w : World) (hs : s.size ≤ maxLen) :
    Calls Try.prog 15 #[.string s] w fun e w' => e = .returned (.tuple #[.int .i64 (sumV s), .bool (sumB s)]) ∧ w = w' := by
  have hs' := hs
  unfold maxLen at hs
  by_cases h : s.size ≤ 2000
  · rw [show sumV s = sumF s.data.toList from if_pos h, show sumB s = true from decide_eq_true h]
    have h1 : decide ((2000 : Int) < (s.size : Int)) = false := by simp; omega
    go_enter Try.func15, Try.ntmps15
    go_wp2_with fail
    refine (implsumOf s _ hs').mono ?_
    rintro e w' ⟨rfl, rfl⟩
    go_wp2_with fail
    go_ret2
    exact ⟨rfl, rfl⟩
  · rw [show sumV s = 0 from if_neg h, show sumB s = false from decide_eq_false h]
    have h1 : decide ((2000 : Int) < (s.size : Int)) = true := by simp; omega
    go_enter Try.func15, Try.ntmps15
    go_wp2_with fail
    go_ret2
    exact ⟨rfl, rfl⟩
end Go.Proofs.Ytikffchdembbjaa
