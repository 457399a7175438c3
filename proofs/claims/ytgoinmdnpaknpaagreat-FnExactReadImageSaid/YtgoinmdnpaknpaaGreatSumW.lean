/- The checksum of a text: the reference's and the program's function compute one fold. Walks. -/
import Derived.Test.YtgoinmdnpaknpaaGreatKit1
import Derived.WalkSpells
import Derived.Lib.Hide
set_option linter.unusedVariables false
set_option linter.unusedSimpArgs false
namespace Go.Proofs.YtgoinmdnpaknpaaGreat
open Go.RowKit

def sumStep (n : Int) (c : UInt8) : Int := (37 * n + (c.toNat : Int)) % 65521
def sumF (l : List UInt8) : Int := l.foldl sumStep 3
theorem sumF_bd (l : List UInt8) : 0 ≤ sumF l ∧ sumF l < 65521 := by
  have h : ∀ (l : List UInt8) (n : Int), 0 ≤ n → n < 65521 → 0 ≤ l.foldl sumStep n ∧ l.foldl sumStep n < 65521 := by
    intro l
    induction l with
    | nil => intro n h1 h2; exact ⟨h1, h2⟩
    | cons c l ih => intro n h1 h2; exact ih _ (by unfold sumStep; omega) (by unfold sumStep; omega)
  exact h l 3 (by omega) (by omega)
theorem take_snoc (s : ByteArray) (k : Nat) (h : k < s.size) : s.data.toList.take (k + 1) = s.data.toList.take k ++ [s[k]] := by
  rw [List.take_succ_eq_append_getElem (by simpa using h)]; rfl
theorem sumF_snoc (l : List UInt8) (c : UInt8) : sumF (l ++ [c]) = (37 * sumF l + (c.toNat : Int)) % 65521 := by
  unfold sumF; rw [List.foldl_append]; rfl

theorem sum_turn (a : Int) (c : UInt8) (h : 0 ≤ a ∧ a < 65521) : (wrap64 (37 * a + wrap64 (c.toNat : Int))).tmod 65521 = (37 * a + (c.toNat : Int)) % 65521 := by
  have hc := byte_bd c
  rw [wrap_small (n := (c.toNat : Int)) (by omega) (by omega), wrap_small (by omega) (by omega), Int.tmod_eq_emod_of_nonneg (by omega)]

theorem implsumOf (s : ByteArray) (w : World) (hs : s.size ≤ maxLen) :
    Calls Tryz.prog 13 #[.string s] w fun e w' => e = .returned (.int .i64 (sumF s.data.toList)) ∧ w = w' := by
  unfold maxLen at hs
  go_enter Tryz.func13, Tryz.ntmps13
  go_wp2
  go_loop [3, 7] (fun n i => ∃ k : Nat, k ≤ s.size ∧ i = .int .i64 k ∧ n = .int .i64 (sumF (s.data.toList.take k))) (fun _ i => s.size - (intOf i).toNat)
  case atStart => exact ⟨0, Nat.zero_le _, rfl, rfl⟩
  case round =>
    obtain ⟨k, hk, rfl, rfl⟩ := hrel
    have hb := sumF_bd (s.data.toList.take k)
    by_cases hlt : k < s.size
    · have HS := Lib.hid (sumF_snoc (s.data.toList.take k) s[k])
      have HT := Lib.hid (take_snoc s k hlt)
      go_wp2
      go_round
      case rel => exact ⟨k + 1, by omega, by go_num, by rw [HT.out, HS.out, sum_turn _ _ hb]⟩
      case measure => simp [intOf]; omega
    · go_wp2
      go_ret
      exact ⟨ret_int (by rw [List.take_of_length_le (by simp; omega)]), rfl⟩
theorem specL12Sum (s : ByteArray) (w : World) (hs : s.size ≤ maxLen) :
    Calls Tryz.prog 9 #[.string s] w fun e w' => e = .returned (.int .i64 (sumF s.data.toList)) ∧ w = w' := by
  unfold maxLen at hs
  go_enter Tryz.func9, Tryz.ntmps9
  go_wp2
  go_loop [3, 4] (fun n i => ∃ k : Nat, k ≤ s.size ∧ i = .int .i64 k ∧ n = .int .i64 (sumF (s.data.toList.take k))) (fun _ i => s.size - (intOf i).toNat)
  case atStart => exact ⟨0, Nat.zero_le _, rfl, rfl⟩
  case round =>
    obtain ⟨k, hk, rfl, rfl⟩ := hrel
    have hb := sumF_bd (s.data.toList.take k)
    by_cases hlt : k < s.size
    · have HS := Lib.hid (sumF_snoc (s.data.toList.take k) s[k])
      have HT := Lib.hid (take_snoc s k hlt)
      go_wp2
      go_round
      case rel => exact ⟨k + 1, by omega, by go_num, by rw [HT.out, HS.out, sum_turn _ _ hb]⟩
      case measure => simp [intOf]; omega
    · go_wp2
      go_ret
      exact ⟨ret_int (by rw [List.take_of_length_le (by simp; omega)]), rfl⟩

end Go.Proofs.YtgoinmdnpaknpaaGreat
