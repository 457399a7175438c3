/- Numbers read back from their bytes: plain law. -/
import Derived.Test.YtenpekohbedehaaLebT
import Derived.Laws.Bits64b
set_option linter.unusedVariables false
set_option linter.unusedSimpArgs false
namespace Go.Proofs.Ytenpekohbedehaa
open Go.RowKit
/-- From a place on a text goes on with these bytes. -/
def Stt (s : ByteArray) (a : Nat) (l : List UInt8) : Prop := a ≤ s.size ∧ ∃ rest, s.data.toList.drop a = l ++ rest
theorem Stt.len {s : ByteArray} {a : Nat} {l : List UInt8} (h : Stt s a l) : a + l.length ≤ s.size := by
  obtain ⟨h1, rest, h2⟩ := h
  have h3 := congrArg List.length h2
  rw [List.length_drop, List.length_append, Array.length_toList] at h3
  have h4 : s.data.size = s.size := rfl
  omega
theorem Stt.at {s : ByteArray} {a : Nat} {l : List UInt8} (h : Stt s a l) {k : Nat} (hk : k < l.length) (hs : a + k < s.size) : s[a + k] = l[k] := by
  obtain ⟨h1, rest, h2⟩ := h
  have h3 : (s.data.toList.drop a)[k]? = (l ++ rest)[k]? := by rw [h2]
  rw [List.getElem?_drop, List.getElem?_append_left hk, List.getElem?_eq_getElem hk, List.getElem?_eq_getElem (by rw [Array.length_toList]; exact hs)] at h3
  exact Option.some.inj h3
theorem Stt.left {s : ByteArray} {a : Nat} {l l' : List UInt8} (h : Stt s a (l ++ l')) : Stt s a l := ⟨h.1, by obtain ⟨_, r, h2⟩ := h; exact ⟨l' ++ r, by rw [h2, List.append_assoc]⟩⟩
theorem Stt.right {s : ByteArray} {a : Nat} {l l' : List UInt8} (h : Stt s a (l ++ l')) : Stt s (a + l.length) l' := by
  refine ⟨h.left.len, ?_⟩
  obtain ⟨_, r, h2⟩ := h
  exact ⟨r, by rw [← List.drop_drop, h2, List.append_assoc, List.drop_left]⟩
theorem uB_pos (m : Nat) : 0 < (uB m).length := by
  by_cases h : m < 128
  · rw [uB_small h]; simp
  · rw [uB_big h]; simp
theorem uB_get : ∀ (b m : Nat), m ≤ b → ∀ (k : Nat) (hk : k < (uB m).length), (uB m)[k].toNat % 128 = m / 2 ^ (7 * k) % 128 ∧ ((uB m)[k].toNat < 128 ↔ k + 1 = (uB m).length)
  | b, m, hb, k, hk => by
    by_cases h : m < 128
    · have e := uB_small h
      have hk1 : k = 0 := by have := congrArg List.length e; simp at this; omega
      subst hk1
      simp only [e, List.getElem_cons_zero, List.length_cons, List.length_nil, Nat.mul_zero, Nat.pow_zero, Nat.div_one]
      rw [UInt8.toNat_ofNat']
      exact ⟨by omega, fun _ => by first | trivial | omega, fun _ => by omega⟩
    · have e := uB_big h
      have hp := uB_pos (m / 128)
      cases k with
      | zero =>
        simp only [e, List.getElem_cons_zero, List.length_cons, Nat.mul_zero, Nat.pow_zero, Nat.div_one]
        rw [UInt8.toNat_ofNat']
        exact ⟨by omega, fun h9 => by omega, fun h9 => by omega⟩
      | succ k =>
        have hk2 : k < (uB (m / 128)).length := by have := congrArg List.length e; rw [List.length_cons] at this; omega
        cases b with
        | zero => omega
        | succ b =>
          have ih := uB_get b (m / 128) (by omega) k hk2
          simp only [e, List.getElem_cons_succ, List.length_cons]
          rw [Nat.div_div_eq_div_mul, show 128 * 2 ^ (7 * k) = 2 ^ (7 * (k + 1)) by rw [show 7 * (k + 1) = 7 + 7 * k by omega, Nat.pow_add]] at ih
          refine ⟨ih.1, ?_⟩
          rw [ih.2]; omega
theorem uB_top : ∀ (b m : Nat), m ≤ b → m < 2 ^ (7 * (uB m).length) ∧ (1 < (uB m).length → 2 ^ (7 * ((uB m).length - 1)) ≤ m)
  | b, m, hb => by
    by_cases h : m < 128
    · rw [uB_small h]; simp; omega
    · have hp := uB_pos (m / 128)
      cases b with
      | zero => omega
      | succ b =>
        have ih := uB_top b (m / 128) (by omega)
        rw [uB_big h, List.length_cons]
        obtain ⟨L, hL⟩ : ∃ L, (uB (m / 128)).length = L := ⟨_, rfl⟩
        rw [hL] at ih hp ⊢
        have e1 : 2 ^ (7 * (L + 1)) = 2 ^ (7 * L) * 128 := by rw [show 7 * (L + 1) = 7 * L + 7 by omega, Nat.pow_add]
        refine ⟨by rw [e1]; omega, fun _ => ?_⟩
        rw [Nat.add_sub_cancel]
        by_cases hL1 : 1 < L
        · have h2 := ih.2 hL1
          have e2 : 2 ^ (7 * L) = 2 ^ (7 * (L - 1)) * 128 := by
            conv => lhs; rw [show 7 * L = 7 * (L - 1) + 7 by omega, Nat.pow_add]
          rw [e2]; omega
        · have : L = 1 := by omega
          subst this
          simp; omega
/-- The last byte. -/
theorem uB_last {m k : Nat} (hm : m < 18446744073709551616) (hk : k + 1 = (uB m).length) : (uB m)[k].toNat = m / 2 ^ (7 * k) ∧ (0 < k → 0 < (uB m)[k].toNat) ∧ (k = 9 → (uB m)[k].toNat ≤ 1) := by
  obtain ⟨h1, h2⟩ := uB_get m m (Nat.le_refl _) k (by omega)
  obtain ⟨h3, h4⟩ := uB_top m m (Nat.le_refl _)
  have h5 := h2.2 hk
  rw [← hk] at h3 h4
  have e1 : 2 ^ (7 * (k + 1)) = 2 ^ (7 * k) * 128 := by rw [show 7 * (k + 1) = 7 * k + 7 by omega, Nat.pow_add]
  have h6 : m / 2 ^ (7 * k) < 128 := Nat.div_lt_of_lt_mul (by rw [← e1]; exact h3)
  have h7 : (uB m)[k].toNat = m / 2 ^ (7 * k) := by rw [Nat.mod_eq_of_lt h5, Nat.mod_eq_of_lt h6] at h1; exact h1
  refine ⟨h7, fun h0 => ?_, fun h9 => ?_⟩
  · rw [h7]
    have := h4 (by omega)
    rw [Nat.add_sub_cancel] at this
    exact Nat.div_pos this (Nat.pow_pos (by decide))
  · rw [h7, h9]
    simp only [Nat.reduceMul, Nat.reducePow]
    omega
/-- Seven bits more. -/
theorem or_step (m k : Nat) : (m % 2 ^ (7 * k)) ||| ((m / 2 ^ (7 * k) % 128) * 2 ^ (7 * k)) = m % 2 ^ (7 * (k + 1)) := by
  rw [Nat.or_comm, Nat.mul_comm (m / 2 ^ (7 * k) % 128), ← Nat.two_pow_add_eq_or_of_lt (Nat.mod_lt _ (Nat.pow_pos (by decide)))]
  rw [show 7 * (k + 1) = 7 * k + 7 by omega, Nat.pow_add, show (2 : Nat) ^ 7 = 128 from rfl, Nat.mod_mul]
  omega
end Go.Proofs.Ytenpekohbedehaa
