/- The laws' own helpers over lists of ints. Walks. -/
import Derived.Test.YtkedpaopnnhinaaBase
import Derived.Deep.QuietTactic
import Derived.BigQuiet
set_option linter.unusedVariables false
set_option linter.unusedSimpArgs false
namespace Go.Proofs.Ytkedpaopnnhinaa
open Go.RowKit

theorem lawsEqIntS (w : World) (lo hi lo' hi' n n' c c' : Nat) (A A' : Option Addr) (l l' : List Int) (h : Sl intR w lo hi A n c l) (h' : Sl intR w lo' hi' A' n' c' l') (hh : hi ≤ w.heap.size) (hh' : hi' ≤ w.heap.size) :
    Calls Try.prog 65 #[.slice A n c, .slice A' n' c'] w (RetB (eqB l l') w) := by
  have e1 := h.lenEq
  have e2 := h'.lenEq
  have b1 := h.lenLe
  have b2 := h'.lenLe
  by_cases hn : n = n'
  · subst hn
    have hn' : ((n : Int) != (n : Int)) = false := by simp
    go_enter Try.func65, Try.ntmps65
    go_wp2
    go_loopw [5] (fun i wr => ∃ k : Nat, k ≤ n ∧ i = .int .i64 k ∧ l.take k = l'.take k ∧ Below w.heap.size w wr) (fun i _ => n - (intOf i).toNat)
    case atStart => exact ⟨0, Nat.zero_le _, rfl, rfl, Below.refl _ _⟩
    case round =>
      obtain ⟨k, hk, rfl, ht0, hb⟩ := hrel
      have ht := Lib.hid ht0
      clear ht0
      by_cases hlt : k < n
      · obtain ⟨b, o, rfl, _, _, hc1, _⟩ := (h.below hb hh).int_at hlt
        obtain ⟨b', o', rfl, _, _, hc2, _⟩ := (h'.below hb hh').int_at hlt
        by_cases he : l[k]'(by omega) = l'[k]'(by omega)
        · have he1 : (l[k]'(by omega) != l'[k]'(by omega)) = false := by simp [he]
          have hs := Lib.hid (take_eq_snoc ht.out (by omega) (by omega) he)
          clear he
          go_wp2
          go_quiet (fail)
          go_wp2
          go_roundw
          case rel => exact ⟨k + 1, by omega, by go_num, hs.out, below_drewN hb _⟩
          case measure => simp [intOf]; omega
        · have he1 : (l[k]'(by omega) != l'[k]'(by omega)) = true := by simp [he]
          have hs := Lib.hid (eqB_false (ne_of_at (by omega) (by omega) he))
          clear he
          go_wp2
          go_quiet (fail)
          go_wp2
          go_ret
          exact RetB.mk hs.out.symm (below_drewN hb _)
      · go_wp2
        go_ret
        exact RetB.mk (eqB_true (eq_of_takes ht.out (by omega) (by omega))).symm hb
  · have hn' : ((n : Int) != (n' : Int)) = true := by simp; omega
    have hd := Lib.hid (eqB_false (x := l) (y := l') (by rintro rfl; omega))
    go_enter Try.func65, Try.ntmps65
    go_wp2
    go_ret
    exact RetB.mk hd.out.symm (Below.refl _ _)

theorem Try.infoInt : (Try.prog.info? 3).map (fun i => (i.zero, i.size, i.bytes)) = some (some (.int .i64 0), 1, 8) := by kernel_rfl
theorem lawsToIntS (w : World) (lo hi n c : Nat) (A : Option Addr) (l : List Int) (h : Sl intR w lo hi A n c l) (hh : hi ≤ w.heap.size) (hn : n ≤ 1048576) :
    Calls Try.prog 63 #[.slice A n c] w (RetOwn intR 3 l w) := by
  have e1 := h.lenEq
  obtain ⟨i0, hi0, hz0, hz1, hz2⟩ := info_parts Try.infoInt
  go_enter Try.func63, Try.ntmps63
  go_wp2_with (at_make; refine wpList_make_full _ rfl _ _ 33 rfl 0 3 i0 (.int .i64 0) 1 Try.underlying33 hi0 hz0 hz1 _ _ _ _ n rfl rfl rfl rfl (by rw [hz2]; omega) (by unfold maxLen; omega) (Nat.zero_le _) ?_)
  intro w1 hown hg
  have hF := Fill.start (R := intR) hown
  have hb0 : Below w.heap.size w w1 := (Below.refl _ _).grown hg (Nat.le_refl _) (fun k hk => by cases hk)
  go_wp2
  go_loopw [4] (fun i wr => ∃ k : Nat, k ≤ n ∧ i = .int .i64 k ∧ Fill intR wr 3 [w.heap.size] w.heap.size n (l.take k) ∧ Below w.heap.size w wr) (fun i _ => n - (intOf i).toNat)
  case atStart => exact ⟨0, Nat.zero_le _, rfl, hF, hb0⟩
  case round =>
    obtain ⟨k, hk, rfl, hF, hb⟩ := hrel
    by_cases hlt : k < n
    · obtain ⟨b, o, rfl, _, _, hc1, hi1⟩ := (h.below hb hh).int_at hlt
      have hlk : (l.take k).length = k := by simp; omega
      obtain ⟨u, hu⟩ := hF.cell (by omega) (j := 0) (by decide)
      rw [hlk, show k * intR.size + 0 = k from Nat.mul_one k] at hu
      have hfz := hF.frozen k
      have hx : intR.own wr [] [.int .i64 (l[k]'(by omega))] (l[k]'(by omega)) := ⟨rfl, rfl, hi1⟩
      have hst := hF.step (by omega) hx (by simp)
      rw [hlk, show k * intR.size = k from Nat.mul_one k, ← List.take_succ_eq_append_getElem (by omega)] at hst
      have hsb := hb.setCell (p := ⟨w.heap.size, k, none⟩) (Nat.le_refl _) (.int .i64 (l[k]'(by omega)))
      go_wp2
      go_roundw
      case rel => exact ⟨k + 1, by omega, by go_num, hst, hsb⟩
      case measure => simp [intOf]; omega
    · go_wp2
      go_ret
      exact RetOwn.mk rfl (hF.all e1 (by omega)) (by simp) hb

/-- What is left of a measure: -1 where it is overrun. -/
def RetSz (left n : Int) (w : World) (e : Ending) (w' : World) : Prop := ∃ r : Int, e = .returned (.int .i64 r) ∧ (r = -1 ∨ (0 ≤ r ∧ r = left - n)) ∧ Below w.heap.size w w'
theorem lawsSzIntS (w : World) (n c : Nat) (A : Option Addr) (left : Int) (h1 : 0 ≤ left) (h2 : left ≤ 1048576) (hn : n ≤ 9223372036854775807) :
    Calls Try.prog 88 #[.slice A n c, .int .i64 left] w (RetSz left n w) := by
  by_cases h : (n : Int) ≤ left
  · go_enter Try.func88, Try.ntmps88
    go_wp2
    go_ret
    exact ⟨_, rfl, Or.inr ⟨by omega, rfl⟩, Below.refl _ _⟩
  · have hd : decide (left - (n : Int) < 0) = true := by simp; omega
    go_enter Try.func88, Try.ntmps88
    go_wp2
    go_ret
    exact ⟨_, rfl, Or.inl rfl, Below.refl _ _⟩

/-- Marked: the array's cells are the numbers from k on; no other block has turned. -/
def RetMark (E : TypeId) (size n : Nat) (v : Value) (k : Int) (F : List Nat) (w : World) (e : Ending) (w' : World) : Prop :=
  e = .returned (.int .i64 (k + ((n * size : Nat) : Int))) ∧ w'.ownsRow 0 E size v n (mk k (n * size)) ∧ Fr F w w'
theorem lawsMarkIntS (w : World) (n c : Nat) (A : Option Addr) (xs : List Value) (k : Int) (F : List Nat) (h : w.ownsRow 0 3 1 (.slice A n c) n xs) (hF : ∀ g, A = some ⟨g, 0, none⟩ → g ∈ F) (h1 : 0 ≤ k) (h2 : k ≤ 1152921504606846976) (hn : n ≤ 1152921504606846976) :
    Calls Try.prog 74 #[.slice A n c, .int .i64 k] w (RetMark 3 1 n (.slice A n c) k F w) := by
  have hl := h.1
  go_enter Try.func74, Try.ntmps74
  go_wp2
  go_loopw [1, 5] (fun kk i wr => ∃ j : Nat, j ≤ n ∧ i = .int .i64 j ∧ kk = .int .i64 (k + (j : Int)) ∧ wr.ownsRow 0 3 1 (.slice A n c) n (mk k j ++ xs.drop j) ∧ Fr F w wr) (fun _ i _ => n - (intOf i).toNat)
  case atStart => exact ⟨0, Nat.zero_le _, rfl, by simp, by simpa [mk] using h, Fr.refl _ _⟩
  case round =>
    obtain ⟨j, hj, rfl, rfl, ho, hb⟩ := hrel
    by_cases hlt : j < n
    · obtain ⟨_, ⟨rfl, h0, _⟩ | ⟨g, rfl, _⟩⟩ := ownsRow_cases ho
      · omega
      have hc := ho.cellAt j (by omega)
      have hu : ∃ u, wr.cell? ⟨g, j, none⟩ = some u := by
        rw [hc]; exact ⟨_, List.getElem?_eq_getElem (by rw [ho.1]; omega)⟩
      clear hc
      obtain ⟨u, hu⟩ := hu
      have hfz := ho.frozenAt j
      have hst := (ho.stored j (.int .i64 (k + (j : Int)))).1
      rw [mk_set k j xs (by omega)] at hst
      have hsb := hb.setCell (p := ⟨g, j, none⟩) (hF g rfl) (.int .i64 (k + (j : Int)))
      go_wp2
      go_roundw
      case rel => exact ⟨j + 1, by omega, by go_num, by go_num, hst, hsb⟩
      case measure => simp [intOf]; omega
    · have hjn : j = n := by omega
      go_wp2
      go_ret
      refine ⟨ret_int (by rw [hjn, Nat.mul_one]), ?_, hb⟩
      have e : mk k j ++ xs.drop j = mk k (n * 1) := by rw [hjn, List.drop_of_length_le (by omega), List.append_nil, Nat.mul_one]
      rw [← e]; exact ho

theorem lawsHeldIntS (w : World) (n c : Nat) (A : Option Addr) (k : Int) (h : w.ownsRow 0 3 1 (.slice A n c) n (mk k (n * 1))) (h1 : 0 ≤ k) (h2 : k ≤ 1152921504606846976) (hn : n ≤ 1152921504606846976) :
    Calls Try.prog 107 #[.slice A n c, .int .i64 k] w fun e w' => e = .returned (.int .i64 (k + ((n * 1 : Nat) : Int))) ∧ w = w' := by
  obtain ⟨_, hA⟩ := ownsRow_cases h
  go_enter Try.func107, Try.ntmps107
  go_wp2
  go_loop [1, 5] (fun kk i => ∃ j : Nat, j ≤ n ∧ i = .int .i64 j ∧ kk = .int .i64 (k + (j : Int))) (fun _ i => n - (intOf i).toNat)
  case atStart => exact ⟨0, Nat.zero_le _, rfl, by simp⟩
  case round =>
    obtain ⟨j, hj, rfl, rfl⟩ := hrel
    by_cases hlt : j < n
    · obtain ⟨rfl, h0, _⟩ | ⟨g, rfl, _⟩ := hA
      · omega
      have hc := h.cellAt j (by omega)
      rw [mk_at k _ j (by omega)] at hc
      go_wp2
      go_round
      case rel => exact ⟨j + 1, by omega, by go_num, by go_num⟩
      case measure => simp [intOf]; omega
    · have hjn : j = n := by omega
      go_wp2
      go_ret
      exact ⟨ret_int (by omega), rfl⟩
end Go.Proofs.Ytkedpaopnnhinaa
