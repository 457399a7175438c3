/- Numbers with a sign as bytes: walks of both sides. -/
import Derived.Test.YtgoinmdnpaknpaaGreatLebW
set_option linter.unusedVariables false
set_option linter.unusedSimpArgs false
set_option maxRecDepth 100000
namespace Go.Proofs.YtgoinmdnpaknpaaGreat
open Go.RowKit
attribute [local irreducible] wpList
/-- A number's bytes with its sign, seven bits each, the lowest first. -/
def sB (n : Int) : List UInt8 := if -64 ≤ n ∧ n ≤ 63 then [UInt8.ofNat (n % 128).toNat] else UInt8.ofNat ((n % 128).toNat + 128) :: sB (n / 128)
termination_by n.natAbs
decreasing_by omega
theorem sB_small {n : Int} (h : -64 ≤ n ∧ n ≤ 63) : sB n = [UInt8.ofNat (n % 128).toNat] := by unfold sB; rw [if_pos h]
theorem sB_big {n : Int} (h : ¬ (-64 ≤ n ∧ n ≤ 63)) : sB n = UInt8.ofNat ((n % 128).toNat + 128) :: sB (n / 128) := by conv => lhs; unfold sB; rw [if_neg h]
theorem or128i (n : Int) : bits .or .u8 (n % 256) 128 = (((n % 128).toNat + 128 : Nat) : Int) := by
  have h := or128 (n % 256).toNat
  have e1 : ((((n % 256).toNat : Nat) : Int) % 256) = n % 256 := by omega
  rw [e1] at h
  rw [h]; omega
theorem and127i (n : Int) : bits .and .u8 (n % 256) 127 = (((n % 128).toNat : Nat) : Int) := by
  have h : ∀ x : Fin 256, bits .and .u8 ((x.val : Nat) : Int) 127 = ((x.val % 128 : Nat) : Int) := by decide +kernel
  have h2 := h ⟨(n % 256).toNat, by omega⟩
  simp only at h2
  have e1 : (((n % 256).toNat : Nat) : Int) = n % 256 := by omega
  rw [e1] at h2
  rw [h2]; omega
theorem and127w (n : Int) : bits .and .i64 n 127 = (((n % 128).toNat : Nat) : Int) := by
  unfold bits
  have e : (BitVec.ofInt IntKind.i64.bits n &&& BitVec.ofInt IntKind.i64.bits 127).toNat = (n % 128).toNat := by
    show (BitVec.ofInt 64 n &&& BitVec.ofInt 64 127).toNat = _
    rw [BitVec.toNat_and]
    have e1 : (BitVec.ofInt 64 127).toNat = 2 ^ 7 - 1 := by decide
    rw [e1, Nat.and_two_pow_sub_one_eq_mod, BitVec.toNat_ofInt]
    omega
  simp only [e]
  rw [IntWalk.i64_in _ (by omega)]
theorem lebs_step {n : Int} {len : Nat} (h : -(2 ^ (63 - 7 * len) : Int) ≤ n ∧ n < 2 ^ (63 - 7 * len)) (hl : len ≤ 9) (hn : ¬ (-64 ≤ n ∧ n ≤ 63)) : (-(2 ^ (63 - 7 * (len + 1)) : Int) ≤ n / 128 ∧ n / 128 < 2 ^ (63 - 7 * (len + 1))) ∧ len + 1 ≤ 9 := by
  have hc : len = 0 ∨ len = 1 ∨ len = 2 ∨ len = 3 ∨ len = 4 ∨ len = 5 ∨ len = 6 ∨ len = 7 ∨ len = 8 ∨ len = 9 := by omega
  rcases hc with rfl | rfl | rfl | rfl | rfl | rfl | rfl | rfl | rfl | rfl
  all_goals
    simp only [Nat.reduceMul, Nat.reduceSub, Nat.reduceAdd, Int.reducePow, Int.reduceNeg] at h ⊢
    omega
theorem lebs_64 {n : Int} {len : Nat} (h : -(2 ^ (63 - 7 * len) : Int) ≤ n ∧ n < 2 ^ (63 - 7 * len)) (hl : len ≤ 9) : I64 n := by
  unfold I64
  have hc : len = 0 ∨ len = 1 ∨ len = 2 ∨ len = 3 ∨ len = 4 ∨ len = 5 ∨ len = 6 ∨ len = 7 ∨ len = 8 ∨ len = 9 := by omega
  rcases hc with rfl | rfl | rfl | rfl | rfl | rfl | rfl | rfl | rfl | rfl
  all_goals
    simp only [Nat.reduceMul, Nat.reduceSub, Int.reducePow, Int.reduceNeg] at h
    omega
theorem implPutS (w : World) (N : Int) (hN : I64 N) :
    Calls Tryz.prog 88 #[.int .i64 N] w (RetS (sB N) w) := by
  obtain ⟨i0, hi0, hz0, hz1, hz2⟩ := info_parts Tryz.infoByte
  go_enter Tryz.func88, Tryz.ntmps88
  go_wp2_with fail
  go_loopw [0, 3] (fun x v wr => ∃ (n : Int) (vo : Value) (pre : List UInt8), vo = v ∧ x = .int .i64 n ∧ Hid (-(2 ^ (63 - 7 * pre.length) : Int) ≤ n ∧ n < 2 ^ (63 - 7 * pre.length)) ∧ pre.length ≤ 9 ∧ Hid (sB N = pre ++ sB n) ∧ wr.ownsRow w.heap.size 5 1 vo pre.length (Lib.byteCells pre) ∧ Below w.heap.size w wr) (fun x _ _ => (intOf x).natAbs)
  case atStart => exact ⟨N, _, [], rfl, rfl, Lib.hid (by unfold I64 at hN; simp; omega), by simp, Lib.hid rfl, by simpa [Lib.byteCells] using World.ownsRow_nil _ _ _ _, Below.refl _ _⟩
  case round =>
    obtain ⟨n, vo, pre, rfl, rfl, HN, hl, hu, ho, hb⟩ := hrel
    have h64 := lebs_64 HN.out hl
    unfold I64 at h64
    have hzr := hb.size
    by_cases hlt : -64 ≤ n ∧ n ≤ 63
    · have hg1 : ¬ n < -64 := by omega
      have hg2 : ¬ n > 63 := by omega
      have hand := and127i n
      obtain ⟨by_, hby⟩ : ∃ m : Nat, (n % 128).toNat = m := ⟨_, rfl⟩
      rw [hby] at hand
      have HBY := Lib.hid hby
      have HLT := Lib.hid hlt
      clear hby hlt
      go_wp2_with (at_builtin; refine wpList_append_own _ rfl _ _ 96 rfl w.heap.size 5 i0 (.int .u8 0) 1 1 Tryz.underlying96 hi0 hz0 hz1 hz2 rfl (by decide) _ _ _ rfl (ho.alloc _) ⟨wr.heap.size, 0, none⟩ 1 1 [.int .u8 by_] rfl rfl (cell_new1 _ _ _ (by simp)) (by simp [Value.oneCell']) (by unfold maxLen; omega) (by omega) (by simp; omega) ?_)
      intro v' w2 hown hgr _
      have hb2 := below_own ho hgr (by exact belA)
      have ho2 : w2.ownsRow w.heap.size 5 1 v' (pre ++ [UInt8.ofNat by_]).length (Lib.byteCells (pre ++ [UInt8.ofNat by_])) := by
        rw [byteCells_snoc _ _ (by have := HBY.out; omega)]; simpa using hown
      have hconv := run_own_string w2 ho2 (by simp)
      have HU := Lib.hid (show pre ++ [UInt8.ofNat by_] = sB N by rw [hu.out, sB_small HLT.out, HBY.out])
      clear hown hgr ho ho2
      go_wp2_with fail
      go_ret
      exact ⟨by rw [HU.out]; rfl, hb2⟩
    · have hor := or128i n
      obtain ⟨by_, hby⟩ : ∃ m : Nat, (n % 128).toNat + 128 = m := ⟨_, rfl⟩
      rw [hby] at hor
      have HBY := Lib.hid hby
      have hst := Lib.hid (lebs_step HN.out hl hlt)
      have HU := Lib.hid (show sB N = (pre ++ [UInt8.ofNat by_]) ++ sB (n / 128) by rw [hu.out, sB_big hlt, ← HBY.out]; simp)
      have HM := Lib.hid (show (n / 128).natAbs < n.natAbs by omega)
      clear hby
      have hg : n < -64 ∨ n > 63 := by omega
      clear hlt
      rcases hg with hg | hg
      all_goals
        have hg0 : ¬ n < -64 ∨ n < -64 := by omega
        have hg3 : n > 63 → ¬ n < -64 := by omega
        go_wp2_with (at_builtin; refine wpList_append_own _ rfl _ _ 96 rfl w.heap.size 5 i0 (.int .u8 0) 1 1 Tryz.underlying96 hi0 hz0 hz1 hz2 rfl (by decide) _ _ _ rfl (ho.alloc _) ⟨wr.heap.size, 0, none⟩ 1 1 [.int .u8 by_] rfl rfl (cell_new1 _ _ _ (by simp)) (by simp [Value.oneCell']) (by unfold maxLen; omega) (by omega) (by simp; omega) ?_)
        intro v' w2 hown hgr _
        have hb2 := below_own ho hgr (by exact belA)
        have ho2 : w2.ownsRow w.heap.size 5 1 v' (pre ++ [UInt8.ofNat by_]).length (Lib.byteCells (pre ++ [UInt8.ofNat by_])) := by
          rw [byteCells_snoc _ _ (by have := HBY.out; omega)]; simpa using hown
        clear hown hgr ho
        go_wp2_with fail
        go_roundw
        case rel => exact ⟨n / 128, _, _, rfl, by go_num, Lib.hid (by simpa using hst.out.1), by simpa using hst.out.2, HU, ho2, hb2⟩
        case measure => simp only [intOf]; exact HM.out
theorem specPutS (w : World) (N : Int) (hN : I64 N) :
    Calls Tryz.prog 47 #[.int .i64 N] w (RetS (sB N) w) := by
  obtain ⟨i0, hi0, hz0, hz1, hz2⟩ := info_parts Tryz.infoByte
  go_enter Tryz.func47, Tryz.ntmps47
  go_wp2_with fail
  go_loopw [0, 3] (fun x v wr => ∃ (n : Int) (vo : Value) (pre : List UInt8), vo = v ∧ x = .int .i64 n ∧ Hid (-(2 ^ (63 - 7 * pre.length) : Int) ≤ n ∧ n < 2 ^ (63 - 7 * pre.length)) ∧ pre.length ≤ 9 ∧ Hid (sB N = pre ++ sB n) ∧ wr.ownsRow w.heap.size 5 1 vo pre.length (Lib.byteCells pre) ∧ Below w.heap.size w wr) (fun x _ _ => (intOf x).natAbs)
  case atStart => exact ⟨N, _, [], rfl, rfl, Lib.hid (by unfold I64 at hN; simp; omega), by simp, Lib.hid rfl, by simpa [Lib.byteCells] using World.ownsRow_nil _ _ _ _, Below.refl _ _⟩
  case round =>
    obtain ⟨n, vo, pre, rfl, rfl, HN, hl, hu, ho, hb⟩ := hrel
    have h64 := lebs_64 HN.out hl
    unfold I64 at h64
    have hzr := hb.size
    have hand := and127w n
    obtain ⟨lo_, hlo⟩ : ∃ m : Nat, (n % 128).toNat = m := ⟨_, rfl⟩
    rw [hlo] at hand
    have HLO := Lib.hid hlo
    have hlo8 : lo_ < 128 := by omega
    obtain ⟨d, hd⟩ : ∃ d, n / 128 = d := ⟨_, rfl⟩
    have HDD := Lib.hid hd
    have hm8 : ((lo_ : Int) % 256) = (lo_ : Int) := by omega
    by_cases hlt : -64 ≤ n ∧ n ≤ 63
    · have HLT := Lib.hid hlt
      have hdc : (d = 0 ∧ lo_ < 64) ∨ (d = -1 ∧ 64 ≤ lo_) := by omega
      clear hlo hlt hd
      rcases hdc with ⟨hd0, hl6⟩ | ⟨hd0, hl6⟩
      all_goals
        have hdn := HDD.out
        rw [hd0] at hdn
        have hli : (lo_ : Int) < 64 ∨ ¬ (lo_ : Int) < 64 := by omega
        have hlj : (lo_ : Int) ≥ 64 ∨ ¬ (lo_ : Int) ≥ 64 := by omega
        go_wp2_with (at_builtin; refine wpList_append_own _ rfl _ _ 96 rfl w.heap.size 5 i0 (.int .u8 0) 1 1 Tryz.underlying96 hi0 hz0 hz1 hz2 rfl (by decide) _ _ _ rfl (ho.alloc _) ⟨wr.heap.size, 0, none⟩ 1 1 [.int .u8 lo_] rfl rfl (cell_new1 _ _ _ (by simp)) (by simp [Value.oneCell']) (by unfold maxLen; omega) (by omega) (by simp; omega) ?_)
        intro v' w2 hown hgr _
        have hb2 := below_own ho hgr (by exact belA)
        have ho2 : w2.ownsRow w.heap.size 5 1 v' (pre ++ [UInt8.ofNat lo_]).length (Lib.byteCells (pre ++ [UInt8.ofNat lo_])) := by
          rw [byteCells_snoc _ _ (by omega)]; simpa using hown
        have hconv := run_own_string w2 ho2 (by simp)
        have HU := Lib.hid (show pre ++ [UInt8.ofNat lo_] = sB N by rw [hu.out, sB_small HLT.out, HLO.out])
        clear hown hgr ho ho2
        go_wp2_with fail
        go_ret
        exact ⟨by rw [HU.out]; rfl, hb2⟩
    · have hst := Lib.hid (lebs_step HN.out hl hlt)
      obtain ⟨by_, hby⟩ : ∃ m : Nat, lo_ + 128 = m := ⟨_, rfl⟩
      have HBY := Lib.hid hby
      have HU := Lib.hid (show sB N = (pre ++ [UInt8.ofNat by_]) ++ sB d by rw [hu.out, sB_big hlt, hlo, hd, ← hby]; simp)
      have HM := Lib.hid (show d.natAbs < n.natAbs by omega)
      rw [hd] at hst
      have hadd : (lo_ : Int) + 128 = (by_ : Int) := by omega
      have hby8 : ((by_ : Int) % 256) = (by_ : Int) := by omega
      have hdc : (¬ d = 0 ∧ ¬ d = -1) ∨ (d = 0 ∧ ¬ (lo_ : Int) < 64) ∨ (d = -1 ∧ ¬ (lo_ : Int) ≥ 64) := by omega
      clear hby hlo hlt
      rcases hdc with ⟨hd1, hd2⟩ | ⟨hd1, hd2⟩ | ⟨hd1, hd2⟩
      rotate_left 1
      · subst hd1
        go_wp2_with (at_builtin; refine wpList_append_own _ rfl _ _ 96 rfl w.heap.size 5 i0 (.int .u8 0) 1 1 Tryz.underlying96 hi0 hz0 hz1 hz2 rfl (by decide) _ _ _ rfl (ho.alloc _) ⟨wr.heap.size, 0, none⟩ 1 1 [.int .u8 by_] rfl rfl (cell_new1 _ _ _ (by simp)) (by simp [Value.oneCell']) (by unfold maxLen; omega) (by omega) (by simp; omega) ?_)
        intro v' w2 hown hgr _
        have hb2 := below_own ho hgr (by exact belA)
        have ho2 : w2.ownsRow w.heap.size 5 1 v' (pre ++ [UInt8.ofNat by_]).length (Lib.byteCells (pre ++ [UInt8.ofNat by_])) := by
          rw [byteCells_snoc _ _ (by have := HBY.out; omega)]; simpa using hown
        clear hown hgr ho
        go_wp2_with fail
        go_roundw
        case rel => exact ⟨_, _, _, rfl, rfl, Lib.hid (by simpa using hst.out.1), by simpa using hst.out.2, HU, ho2, hb2⟩
        case measure => simp only [intOf]; exact HM.out
      · subst hd1
        go_wp2_with (at_builtin; refine wpList_append_own _ rfl _ _ 96 rfl w.heap.size 5 i0 (.int .u8 0) 1 1 Tryz.underlying96 hi0 hz0 hz1 hz2 rfl (by decide) _ _ _ rfl (ho.alloc _) ⟨wr.heap.size, 0, none⟩ 1 1 [.int .u8 by_] rfl rfl (cell_new1 _ _ _ (by simp)) (by simp [Value.oneCell']) (by unfold maxLen; omega) (by omega) (by simp; omega) ?_)
        intro v' w2 hown hgr _
        have hb2 := below_own ho hgr (by exact belA)
        have ho2 : w2.ownsRow w.heap.size 5 1 v' (pre ++ [UInt8.ofNat by_]).length (Lib.byteCells (pre ++ [UInt8.ofNat by_])) := by
          rw [byteCells_snoc _ _ (by have := HBY.out; omega)]; simpa using hown
        clear hown hgr ho
        go_wp2_with fail
        go_roundw
        case rel => exact ⟨_, _, _, rfl, rfl, Lib.hid (by simpa using hst.out.1), by simpa using hst.out.2, HU, ho2, hb2⟩
        case measure => simp only [intOf]; exact HM.out
      · go_wp2_with (at_builtin; refine wpList_append_own _ rfl _ _ 96 rfl w.heap.size 5 i0 (.int .u8 0) 1 1 Tryz.underlying96 hi0 hz0 hz1 hz2 rfl (by decide) _ _ _ rfl (ho.alloc _) ⟨wr.heap.size, 0, none⟩ 1 1 [.int .u8 by_] rfl rfl (cell_new1 _ _ _ (by simp)) (by simp [Value.oneCell']) (by unfold maxLen; omega) (by omega) (by simp; omega) ?_)
        intro v' w2 hown hgr _
        have hb2 := below_own ho hgr (by exact belA)
        have ho2 : w2.ownsRow w.heap.size 5 1 v' (pre ++ [UInt8.ofNat by_]).length (Lib.byteCells (pre ++ [UInt8.ofNat by_])) := by
          rw [byteCells_snoc _ _ (by have := HBY.out; omega)]; simpa using hown
        clear hown hgr ho
        go_wp2_with fail
        go_roundw
        case rel => exact ⟨_, _, _, rfl, rfl, Lib.hid (by simpa using hst.out.1), by simpa using hst.out.2, HU, ho2, hb2⟩
        case measure => simp only [intOf]; exact HM.out
end Go.Proofs.YtgoinmdnpaknpaaGreat
