/- Numbers as bytes: walks of both sides. -/
import Derived.Test.YtgoinmdnpaknpaaGreatBld
import Derived.Laws.IdiomStrings
set_option linter.unusedVariables false
set_option linter.unusedSimpArgs false
set_option maxRecDepth 100000
namespace Go.Proofs.YtgoinmdnpaknpaaGreat
open Go.RowKit
/-- A number's bytes, seven bits each, the lowest first. -/
def uB (n : Nat) : List UInt8 := if n < 128 then [UInt8.ofNat n] else UInt8.ofNat (n % 128 + 128) :: uB (n / 128)
termination_by n
decreasing_by omega
theorem uB_small {n : Nat} (h : n < 128) : uB n = [UInt8.ofNat n] := by unfold uB; rw [if_pos h]
theorem uB_big {n : Nat} (h : ¬ n < 128) : uB n = UInt8.ofNat (n % 128 + 128) :: uB (n / 128) := by conv => lhs; unfold uB; rw [if_neg h]
theorem Tryz.infoByte : (Tryz.prog.info? 5).map (fun i => (i.zero, i.size, i.bytes)) = some (some (.int .u8 0), 1, 1) := by kernel_rfl
/-- A text with these bytes is told. -/
def RetS (l : List UInt8) (w : World) (e : Ending) (w' : World) : Prop := e = .returned (.string ⟨l.toArray⟩) ∧ Below w.heap.size w w'
attribute [local irreducible] wpList
theorem or128 (n : Nat) : bits .or .u8 ((n : Int) % 256) 128 = ((n % 128 + 128 : Nat) : Int) := by
  have h : ∀ x : Fin 256, bits .or .u8 ((x.val : Nat) : Int) 128 = ((x.val % 128 + 128 : Nat) : Int) := by decide +kernel
  have h2 := h ⟨n % 256, Nat.mod_lt _ (by decide)⟩
  have e1 : n % 256 % 128 = n % 128 := by omega
  simp only [e1] at h2
  have e2 : ((n : Int) % 256) = ((n % 256 : Nat) : Int) := by omega
  rw [e2]; exact h2
theorem leb_step {n len : Nat} (h : n < 2 ^ (64 - 7 * len)) (hl : len ≤ 9) (hn : ¬ n < 128) : n / 128 < 2 ^ (64 - 7 * (len + 1)) ∧ len + 1 ≤ 9 := by
  have hc : len = 0 ∨ len = 1 ∨ len = 2 ∨ len = 3 ∨ len = 4 ∨ len = 5 ∨ len = 6 ∨ len = 7 ∨ len = 8 ∨ len = 9 := by omega
  rcases hc with rfl | rfl | rfl | rfl | rfl | rfl | rfl | rfl | rfl | rfl
  all_goals
    simp only [Nat.reducePow, Nat.reduceMul, Nat.reduceSub, Nat.reduceAdd] at h ⊢
    omega
theorem byte_nat {n : Nat} (h : n < 256) : ((UInt8.ofNat n).toNat : Int) = (n : Int) := by
  rw [UInt8.toNat_ofNat']; omega
theorem byteCells_snoc (l : List UInt8) (n : Nat) (h : n < 256) : Lib.byteCells (l ++ [UInt8.ofNat n]) = Lib.byteCells l ++ [.int .u8 (n : Int)] := by
  simp only [Lib.byteCells, List.map_append, List.map_cons, List.map_nil, byte_nat h]
/-- The text of a row of bytes that the call owns. -/
theorem run_own_string (w : World) {B : Nat} {v : Value} {l : List UInt8} (h : w.ownsRow B 5 1 v l.length (Lib.byteCells l)) (h0 : l ≠ []) : (convert 96 9 v).run Tryz.prog w = .ok (.string ⟨l.toArray⟩) w := by
  have hl : 0 < l.length := List.length_pos_iff.2 h0
  have h' := h
  rcases h.2 with ⟨rfl, hz⟩ | ⟨g, cap, cur, rfl, _⟩
  · omega
  · refine run_convert_bytes_back w _ _ 5 ⟨g, 0, none⟩ cap l Tryz.underlying96 Tryz.underlying5 Tryz.underlying9 (fun j hj => ?_)
    have hc := h'.cellAt j (by omega)
    have e : (⟨g, 0, none⟩ : Addr).add j = ⟨g, j, none⟩ := by
      have e2 : ∀ o, (⟨g, o, none⟩ : Addr).add j = ⟨g, o + j, none⟩ := fun o => by unfold Addr.add; simp
      rw [e2 0, Nat.zero_add]
    rw [e, hc]
    simp [Lib.byteCells, hj]
theorem implPutU (w : World) (N : Nat) (hN : N < 18446744073709551616) :
    Calls Tryz.prog 87 #[.int .u64 N] w (RetS (uB N) w) := by
  obtain ⟨i0, hi0, hz0, hz1, hz2⟩ := info_parts Tryz.infoByte
  go_enter Tryz.func87, Tryz.ntmps87
  go_wp2_with fail
  go_loopw [0, 3] (fun x v wr => ∃ (n : Nat) (vo : Value) (pre : List UInt8), vo = v ∧ x = .int .u64 n ∧ n < 2 ^ (64 - 7 * pre.length) ∧ pre.length ≤ 9 ∧ Hid (uB N = pre ++ uB n) ∧ wr.ownsRow w.heap.size 5 1 vo pre.length (Lib.byteCells pre) ∧ Below w.heap.size w wr) (fun x _ _ => (intOf x).toNat)
  case atStart => exact ⟨N, _, [], rfl, rfl, by simpa using hN, by simp, Lib.hid rfl, by simpa [Lib.byteCells] using World.ownsRow_nil _ _ _ _, Below.refl _ _⟩
  case round =>
    obtain ⟨n, vo, pre, rfl, rfl, hn, hl, hu, ho, hb⟩ := hrel
    have HN := Lib.hid hn
    have hn64 : n < 18446744073709551616 := Nat.lt_of_lt_of_le hn (Nat.pow_le_pow_right (n := 2) (by decide) (show 64 - 7 * pre.length ≤ 64 by omega))
    clear hn
    have hzr := hb.size
    by_cases hlt : n < 128
    · have hg : ¬ ((n : Int) > 127) := by omega
      have h256 : ((n : Int) % 256) = (n : Int) := by omega
      go_wp2_with (at_builtin; refine wpList_append_own _ rfl _ _ 96 rfl w.heap.size 5 i0 (.int .u8 0) 1 1 Tryz.underlying96 hi0 hz0 hz1 hz2 rfl (by decide) _ _ _ rfl (ho.alloc _) ⟨wr.heap.size, 0, none⟩ 1 1 [.int .u8 n] rfl rfl (cell_new1 _ _ _ (by simp)) (by simp [Value.oneCell']) (by unfold maxLen; omega) (by omega) (by simp; omega) ?_)
      intro v' w2 hown hgr _
      have hb2 := below_own ho hgr (by exact belA)
      have ho2 : w2.ownsRow w.heap.size 5 1 v' (pre ++ [UInt8.ofNat n]).length (Lib.byteCells (pre ++ [UInt8.ofNat n])) := by
        rw [byteCells_snoc _ _ (by omega)]; simpa using hown
      have hconv := run_own_string w2 ho2 (by simp)
      have HU := Lib.hid (show pre ++ [UInt8.ofNat n] = uB N by rw [hu.out, uB_small hlt])
      clear hown hgr ho ho2
      go_wp2_with fail
      go_ret
      exact ⟨by rw [HU.out]; rfl, hb2⟩
    · have hg : ((n : Int) > 127) := by omega
      have hor := or128 n
      obtain ⟨by_, hby⟩ : ∃ m : Nat, n % 128 + 128 = m := ⟨_, rfl⟩
      rw [hby] at hor
      have HBY := Lib.hid hby
      clear hby
      go_wp2_with (at_builtin; refine wpList_append_own _ rfl _ _ 96 rfl w.heap.size 5 i0 (.int .u8 0) 1 1 Tryz.underlying96 hi0 hz0 hz1 hz2 rfl (by decide) _ _ _ rfl (ho.alloc _) ⟨wr.heap.size, 0, none⟩ 1 1 [.int .u8 by_] rfl rfl (cell_new1 _ _ _ (by simp)) (by simp [Value.oneCell']) (by unfold maxLen; omega) (by omega) (by simp; omega) ?_)
      intro v' w2 hown hgr _
      have hb2 := below_own ho hgr (by exact belA)
      have ho2 : w2.ownsRow w.heap.size 5 1 v' (pre ++ [UInt8.ofNat by_]).length (Lib.byteCells (pre ++ [UInt8.ofNat by_])) := by
        rw [byteCells_snoc _ _ (by have := HBY.out; omega)]; simpa using hown
      have hst := Lib.hid (leb_step HN.out hl hlt)
      have HU := Lib.hid (show uB N = (pre ++ [UInt8.ofNat by_]) ++ uB (n / 128) by rw [hu.out, uB_big hlt, ← HBY.out]; simp)
      clear hown hgr ho
      go_wp2_with fail
      go_roundw
      case rel => exact ⟨n / 128, _, _, rfl, by go_num, by simpa using hst.out.1, by simpa using hst.out.2, HU, ho2, hb2⟩
      case measure => simp [intOf]; omega
theorem specPutU1 (w : World) (N : Nat) (hN : N < 18446744073709551616) :
    Calls Tryz.prog 39 #[.int .u64 N] w (RetS (uB N) w) := by
  obtain ⟨i0, hi0, hz0, hz1, hz2⟩ := info_parts Tryz.infoByte
  go_enter Tryz.func39, Tryz.ntmps39
  go_wp2_with fail
  go_loopw [0, 3] (fun x v wr => ∃ (n : Nat) (vo : Value) (pre : List UInt8), vo = v ∧ x = .int .u64 n ∧ n < 2 ^ (64 - 7 * pre.length) ∧ pre.length ≤ 9 ∧ Hid (uB N = pre ++ uB n) ∧ wr.ownsRow w.heap.size 5 1 vo pre.length (Lib.byteCells pre) ∧ Below w.heap.size w wr) (fun x _ _ => (intOf x).toNat)
  case atStart => exact ⟨N, _, [], rfl, rfl, by simpa using hN, by simp, Lib.hid rfl, by simpa [Lib.byteCells] using World.ownsRow_nil _ _ _ _, Below.refl _ _⟩
  case round =>
    obtain ⟨n, vo, pre, rfl, rfl, hn, hl, hu, ho, hb⟩ := hrel
    have HN := Lib.hid hn
    have hn64 : n < 18446744073709551616 := Nat.lt_of_lt_of_le hn (Nat.pow_le_pow_right (n := 2) (by decide) (show 64 - 7 * pre.length ≤ 64 by omega))
    clear hn
    have hzr := hb.size
    by_cases hlt : n < 128
    · have hg : ¬ ((n : Int) ≥ 128) := by omega
      have h256 : ((n : Int) % 256) = (n : Int) := by omega
      go_wp2_with (at_builtin; refine wpList_append_own _ rfl _ _ 96 rfl w.heap.size 5 i0 (.int .u8 0) 1 1 Tryz.underlying96 hi0 hz0 hz1 hz2 rfl (by decide) _ _ _ rfl (ho.alloc _) ⟨wr.heap.size, 0, none⟩ 1 1 [.int .u8 n] rfl rfl (cell_new1 _ _ _ (by simp)) (by simp [Value.oneCell']) (by unfold maxLen; omega) (by omega) (by simp; omega) ?_)
      intro v' w2 hown hgr _
      have hb2 := below_own ho hgr (by exact belA)
      have ho2 : w2.ownsRow w.heap.size 5 1 v' (pre ++ [UInt8.ofNat n]).length (Lib.byteCells (pre ++ [UInt8.ofNat n])) := by
        rw [byteCells_snoc _ _ (by omega)]; simpa using hown
      have hconv := run_own_string w2 ho2 (by simp)
      have HU := Lib.hid (show pre ++ [UInt8.ofNat n] = uB N by rw [hu.out, uB_small hlt])
      clear hown hgr ho ho2
      go_wp2_with fail
      go_ret
      exact ⟨by rw [HU.out]; rfl, hb2⟩
    · have hg : ((n : Int) ≥ 128) := by omega
      obtain ⟨by_, hby⟩ : ∃ m : Nat, n % 128 + 128 = m := ⟨_, rfl⟩
      have HBY := Lib.hid hby
      have hw1 : (n : Int) % 128 + 128 = (by_ : Int) := by omega
      clear hby
      go_wp2_with (at_builtin; refine wpList_append_own _ rfl _ _ 96 rfl w.heap.size 5 i0 (.int .u8 0) 1 1 Tryz.underlying96 hi0 hz0 hz1 hz2 rfl (by decide) _ _ _ rfl (ho.alloc _) ⟨wr.heap.size, 0, none⟩ 1 1 [.int .u8 by_] rfl rfl (cell_new1 _ _ _ (by simp)) (by simp [Value.oneCell']) (by unfold maxLen; omega) (by omega) (by simp; omega) ?_)
      intro v' w2 hown hgr _
      have hb2 := below_own ho hgr (by exact belA)
      have ho2 : w2.ownsRow w.heap.size 5 1 v' (pre ++ [UInt8.ofNat by_]).length (Lib.byteCells (pre ++ [UInt8.ofNat by_])) := by
        rw [byteCells_snoc _ _ (by have := HBY.out; omega)]; simpa using hown
      have hst := Lib.hid (leb_step HN.out hl hlt)
      have HU := Lib.hid (show uB N = (pre ++ [UInt8.ofNat by_]) ++ uB (n / 128) by rw [hu.out, uB_big hlt, ← HBY.out]; simp)
      clear hown hgr ho
      go_wp2_with fail
      go_roundw
      case rel => exact ⟨n / 128, _, _, rfl, by go_num, by simpa using hst.out.1, by simpa using hst.out.2, HU, ho2, hb2⟩
      case measure => simp [intOf]; omega
theorem specPutU (w : World) (N : Nat) (hN : N < 18446744073709551616) :
    Calls Tryz.prog 46 #[.int .u64 N] w (RetS (uB N) w) := by
  go_enter Tryz.func46, Tryz.ntmps46
  go_wp2_with fail
  refine (specPutU1 w N hN).mono ?_
  rintro e w1 ⟨rfl, hb⟩
  go_wp2_with fail
  go_ret
  exact ⟨rfl, hb⟩
end Go.Proofs.YtgoinmdnpaknpaaGreat
