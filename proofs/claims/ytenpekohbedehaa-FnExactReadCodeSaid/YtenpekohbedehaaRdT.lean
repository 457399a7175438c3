/- Numbers with a sign read back from their bytes: plain law. -/
import Derived.Test.YtenpekohbedehaaRdI
set_option linter.unusedVariables false
set_option linter.unusedSimpArgs false
namespace Go.Proofs.Ytenpekohbedehaa
open Go.RowKit
theorem sB_pos (n : Int) : 0 < (sB n).length := by
  by_cases h : -64 ≤ n ∧ n ≤ 63
  · rw [sB_small h]; simp
  · rw [sB_big h]; simp
theorem mod_more (n : Int) (M : Int) (hM : 0 < M) : n % 128 + 128 * ((n / 128) % M) = n % (128 * M) := by
  have h1 := Int.mul_ediv_add_emod n 128
  have h2 := Int.mul_ediv_add_emod (n / 128) M
  have h3 := Int.emod_nonneg (n / 128) (show M ≠ 0 by omega)
  have h4 := Int.emod_lt_of_pos (n / 128) hM
  obtain ⟨r, hr⟩ : ∃ r, n / 128 % M = r := ⟨_, rfl⟩
  obtain ⟨q, hq⟩ : ∃ q, n / 128 / M = q := ⟨_, rfl⟩
  obtain ⟨d, hd⟩ : ∃ d, n / 128 = d := ⟨_, rfl⟩
  obtain ⟨x, hx⟩ : ∃ x, n % 128 = x := ⟨_, rfl⟩
  have h5 : 0 ≤ x ∧ x < 128 := by omega
  rw [hr] at h2 h3 h4 ⊢
  rw [hq, hd] at h2
  rw [hd] at h1
  rw [hx] at h1 ⊢
  have h6 : n = (x + 128 * r) + 128 * M * q := by rw [Int.mul_assoc]; omega
  rw [h6, Int.add_mul_emod_self_left, Int.emod_eq_of_lt (by omega) (by omega)]
theorem sB_facts : ∀ (b : Nat) (n : Int), n.natAbs ≤ b → (∀ (k : Nat) (hk : k < (sB n).length), ((sB n)[k].toNat < 128 ↔ k + 1 = (sB n).length)) ∧ (valB (sB n) : Int) = n % 2 ^ (7 * (sB n).length) ∧ -(2 ^ (7 * (sB n).length - 1) : Int) ≤ n ∧ n < 2 ^ (7 * (sB n).length - 1)
  | b, n, hb => by
    by_cases h : -64 ≤ n ∧ n ≤ 63
    · have e := sB_small h
      refine ⟨fun k hk => ?_, ?_, ?_⟩
      · have hk1 : k = 0 := by have := congrArg List.length e; simp at this; omega
        subst hk1
        simp only [e, List.getElem_cons_zero, List.length_cons, List.length_nil]
        rw [UInt8.toNat_ofNat']
        exact ⟨fun _ => by first | trivial | omega, fun _ => by omega⟩
      · rw [e]; simp only [valB, List.length_cons, List.length_nil]; rw [UInt8.toNat_ofNat']
        show _ = n % 128
        omega
      · rw [e]; simp only [List.length_cons, List.length_nil]
        show -64 ≤ n ∧ n < 64
        omega
    · have e := sB_big h
      have hp := sB_pos (n / 128)
      cases b with
      | zero => omega
      | succ b =>
        obtain ⟨i1, i2, i3, i4⟩ := sB_facts b (n / 128) (by omega)
        obtain ⟨L, hL⟩ : ∃ L, (sB (n / 128)).length = L := ⟨_, rfl⟩
        refine ⟨fun k hk => ?_, ?_, ?_⟩
        · cases k with
          | zero =>
            simp only [e, List.getElem_cons_zero, List.length_cons]
            rw [UInt8.toNat_ofNat']
            exact ⟨fun h9 => by omega, fun h9 => by omega⟩
          | succ k =>
            have hk2 : k < (sB (n / 128)).length := by have := congrArg List.length e; rw [List.length_cons] at this; omega
            have ih := i1 k hk2
            simp only [e, List.getElem_cons_succ, List.length_cons]
            rw [ih]; omega
        · rw [e]
          simp only [valB, List.length_cons]
          rw [UInt8.toNat_ofNat']
          rw [hL] at i2 ⊢
          have e2 : (2 : Int) ^ (7 * (L + 1)) = 128 * 2 ^ (7 * L) := by rw [show 7 * (L + 1) = 7 + 7 * L by omega, Int.pow_add]; rfl
          rw [e2, ← mod_more n _ (Int.pow_pos (by decide)), ← i2]
          omega
        · rw [e, List.length_cons]
          rw [hL] at i3 i4 hp ⊢
          have e2 : (2 : Int) ^ (7 * (L + 1) - 1) = 128 * 2 ^ (7 * L - 1) := by rw [show 7 * (L + 1) - 1 = 7 + (7 * L - 1) by omega, Int.pow_add]; rfl
          rw [e2]
          constructor <;> omega
theorem sB_leb {n : Int} (hn : I64 n) : Leb (sB n) := ⟨sB_pos n, s10 hn, (sB_facts _ n (Nat.le_refl _)).1⟩
end Go.Proofs.Ytenpekohbedehaa
