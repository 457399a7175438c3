/- How many lines a text has: walks of both sides. -/
import Derived.Test.YtkedpaopnnhinaaApp
import Derived.Lib.Bytealg
set_option linter.unusedVariables false
set_option linter.unusedSimpArgs false
set_option maxRecDepth 100000
namespace Go.Proofs.Ytkedpaopnnhinaa
open Go.RowKit
theorem take_snoc' (s : ByteArray) (k : Nat) (h : k < s.size) : s.data.toList.take (k + 1) = s.data.toList.take k ++ [s[k]] := by
  rw [List.take_succ_eq_append_getElem (by simpa using h)]; rfl
def linesN (s : ByteArray) : Nat := s.data.toList.count 10
def linesB (s : ByteArray) : Bool := decide (s.size ≤ 3000)
def linesV (s : ByteArray) : Int := if s.size ≤ 3000 then (linesN s : Int) else 0
theorem ret_pair3 {v u v' u' : Value} (h1 : v = v') (h2 : u = u') : Ending.returned (.tuple #[v, u]) = .returned (.tuple #[v', u']) := by rw [h1, h2]
theorem stringsCount1 (s : ByteArray) (w : World) : Calls Try.prog 81 #[.string s, .string ⟨#[10]⟩] w (RetV (.int .i64 (linesN s : Int)) w) := by
  go_enter Try.func81, Try.ntmps81
  go_wp2_with fail
  rw [run_callFunc_extern Try.func153 (by kernel_rfl) (by kernel_rfl) (by kernel_rfl) (e := Extern.BytealgCount.count) (by kernel_rfl), Lib.run_countString]
  simp only [Result.andThen]
  rw [Oper.upon_value]
  go_wp2_with fail
  go_ret
  exact ⟨rfl, by (repeat (first | with_reducible exact Below.refl _ _ | with_reducible assumption | with_reducible refine below_alloc ?_ _ | ((with_reducible refine Below.setCell ?_ ?_ _); rotate_left; (· first | exact Nat.le_refl _ | (simp; done) | (simp; omega))) | with_reducible refine below_drewN ?_ _ | with_reducible refine Below.drew ?_ | with_reducible refine below_then ?_ (by with_reducible assumption)))⟩
theorem Try.infoString : (Try.prog.info? 9).map (fun i => (i.zero, i.size, i.bytes)) = some (some (.string ⟨#[]⟩), 1, 16) := by kernel_rfl
theorem specL1Split10 (s : ByteArray) (w : World) (hs : s.size ≤ 3000) :
    Calls Try.prog 80 #[.string s, .int .u8 10] w fun e w' => ∃ A c, e = .returned (.slice A (linesN s + 1) c) ∧ Below w.heap.size w w' := by
  obtain ⟨inf, hif, hz0, hz1, hz2⟩ := info_parts Try.infoString
  go_enter Try.func80, Try.ntmps80
  go_wp2_with fail
  go_loopw [5, 6, 7] (fun v f i wr => ∃ (k fr m : Nat) (ss : List Value), k ≤ s.size ∧ i = .int .i64 k ∧ f = .int .i64 fr ∧ fr ≤ k ∧ m = (s.data.toList.take k).count 10 ∧ wr.ownsRow w.heap.size 9 1 v m ss ∧ Below w.heap.size w wr) (fun _ _ i _ => s.size - (intOf i).toNat)
  case atStart => exact ⟨0, 0, 0, [], Nat.zero_le _, rfl, rfl, Nat.le_refl _, rfl, World.ownsRow_nil _ _ _ _, Below.refl _ _⟩
  case round =>
    obtain ⟨k, fr, m, ss, hk, rfl, rfl, hfr, hm0, ho, hb⟩ := hrel
    have hmk : m ≤ k := by rw [hm0]; exact Nat.le_trans List.count_le_length (by simp; omega)
    have hbs := hb.size
    have HM := Lib.hid hm0
    clear hm0
    have hm : ∀ o, Below wr.heap.size wr (wr.alloc o) := fun o => Below.alloc (Below.refl _ _) (Nat.le_refl _) o
    have g1 : (0 : Int) ≤ (fr : Int) := by omega
    have g2 : (fr : Int) ≤ (k : Int) := by omega
    have g3 : (k : Int) ≤ (s.size : Int) := by omega
    by_cases hlt : k < s.size
    · have HT := Lib.hid (take_snoc' s k hlt)
      by_cases he : s[k] = 10
      · have HC := Lib.hid (show m + 1 = (s.data.toList.take (k + 1)).count 10 by rw [HT.out, List.count_append, ← HM.out, he]; rfl)
        have hd : ((s[k].toNat : Int) == 10) = true := by rw [he]; rfl
        clear he
        go_wp2_with (at_builtin; refine wpList_append_own_at _ rfl _ _ 114 rfl w.heap.size 9 inf (.string ⟨#[]⟩) 1 16 Try.underlying114 hif hz0 hz1 hz2 rfl (by decide) _ _ _ rfl (ho.alloc _) ⟨wr.heap.size, 0, none⟩ 1 1 [_] rfl rfl (cell_new1 _ _ _ (by simp)) (by simp [Value.oneCell']) (by unfold maxLen; omega) (by omega) (by first | (simp; done) | (simp; omega)) ?_)
        intro v' w2 hown hgr _ hat
        have hb2 := below_own ho hgr (below_then hb (hm _))
        clear hgr hat ho
        go_wp2_with fail
        go_roundw
        case rel => exact ⟨k + 1, k + 1, m + 1, _, by omega, by go_num, by go_num, Nat.le_refl _, HC.out, hown, hb2⟩
        case measure => simp [intOf]; omega
      · have HC := Lib.hid (show m = (s.data.toList.take (k + 1)).count 10 by rw [HT.out, List.count_append, ← HM.out, List.count_singleton, if_neg (by simpa using he), Nat.add_zero])
        have hd : ((s[k].toNat : Int) == 10) = false := by
          simp only [beq_eq_false_iff_ne, ne_eq]
          intro h
          apply he
          have : s[k].toNat = (10 : UInt8).toNat := by
            have h2 : (10 : UInt8).toNat = 10 := rfl
            omega
          exact UInt8.toNat_inj.1 this
        clear he
        go_wp2_with fail
        go_roundw
        case rel => exact ⟨k + 1, fr, m, ss, by omega, by go_num, rfl, by omega, HC.out, ho, hb⟩
        case measure => simp [intOf]; omega
    · have hks : k = s.size := by omega
      have HC := Lib.hid (show m = linesN s by rw [HM.out, List.take_of_length_le (by simp; omega)]; rfl)
      clear hks
      go_wp2_with (at_builtin; refine wpList_append_own_at _ rfl _ _ 114 rfl w.heap.size 9 inf (.string ⟨#[]⟩) 1 16 Try.underlying114 hif hz0 hz1 hz2 rfl (by decide) _ _ _ rfl (ho.alloc _) ⟨wr.heap.size, 0, none⟩ 1 1 [_] rfl rfl (cell_new1 _ _ _ (by simp)) (by simp [Value.oneCell']) (by unfold maxLen; omega) (by omega) (by first | (simp; done) | (simp; omega)) ?_)
      intro v' w2 hown hgr _ hat
      have hb2 := below_own ho hgr (below_then hb (hm _))
      obtain ⟨A', c', rfl⟩ : ∃ A' c', v' = .slice A' (m + 1) c' := by
        rcases hown.2 with ⟨_, h0⟩ | ⟨g, cap, cur, h, _⟩
        · omega
        · exact ⟨_, _, h⟩
      clear hgr hat ho hown
      go_wp2_with fail
      go_ret
      exact ⟨A', c', by rw [← HC.out]; rfl, hb2⟩
theorem specLinesInC (w : World) (s : ByteArray) (z : s.size ≤ maxLen) : Calls Try.prog 15 #[.string s] w (RetV (.tuple #[.int .i64 (linesV s), .bool (linesB s)]) w) := by
  unfold maxLen at z
  by_cases h : s.size ≤ 3000
  · rw [show linesV s = (linesN s : Int) from if_pos h, show linesB s = true from decide_eq_true h]
    have hd : decide ((3000 : Int) < (s.size : Int)) = false := by simp; omega
    have hl : linesN s ≤ 3000 := Nat.le_trans List.count_le_length (by simpa using h)
    go_enter Try.func15, Try.ntmps15
    go_wp2_with fail
    refine (specL1Split10 s _ h).mono ?_
    rintro e w2 ⟨A, c, rfl, hb⟩
    go_wp2_with fail
    go_ret2
    exact ⟨ret_pair3 (int_eq (by omega)) rfl, hb⟩
  · rw [show linesV s = 0 from if_neg h, show linesB s = false from decide_eq_false h]
    have hd : decide ((3000 : Int) < (s.size : Int)) = true := by simp; omega
    go_enter Try.func15, Try.ntmps15
    go_wp2_with fail
    go_ret2
    exact ⟨rfl, by (repeat (first | with_reducible exact Below.refl _ _ | with_reducible assumption | with_reducible refine below_alloc ?_ _ | ((with_reducible refine Below.setCell ?_ ?_ _); rotate_left; (· first | exact Nat.le_refl _ | (simp; done) | (simp; omega))) | with_reducible refine below_drewN ?_ _ | with_reducible refine Below.drew ?_ | with_reducible refine below_then ?_ (by with_reducible assumption)))⟩
theorem implLinesInC (w : World) (s : ByteArray) (z : s.size ≤ maxLen) : Calls Try.prog 16 #[.string s] w (RetV (.tuple #[.int .i64 (linesV s), .bool (linesB s)]) w) := by
  unfold maxLen at z
  by_cases h : s.size ≤ 3000
  · rw [show linesV s = (linesN s : Int) from if_pos h, show linesB s = true from decide_eq_true h]
    have hd : decide ((3000 : Int) < (s.size : Int)) = false := by simp; omega
    go_enter Try.func16, Try.ntmps16
    go_wp2_with fail
    refine (stringsCount1 s _).mono ?_
    rintro e w2 ⟨rfl, hb⟩
    go_wp2_with fail
    go_ret2
    exact ⟨rfl, hb⟩
  · rw [show linesV s = 0 from if_neg h, show linesB s = false from decide_eq_false h]
    have hd : decide ((3000 : Int) < (s.size : Int)) = true := by simp; omega
    go_enter Try.func16, Try.ntmps16
    go_wp2_with fail
    go_ret2
    exact ⟨rfl, by (repeat (first | with_reducible exact Below.refl _ _ | with_reducible assumption | with_reducible refine below_alloc ?_ _ | ((with_reducible refine Below.setCell ?_ ?_ _); rotate_left; (· first | exact Nat.le_refl _ | (simp; done) | (simp; omega))) | with_reducible refine below_drewN ?_ _ | with_reducible refine Below.drew ?_ | with_reducible refine below_then ?_ (by with_reducible assumption)))⟩
end Go.Proofs.Ytkedpaopnnhinaa
