/- Several texts in one: RdP, RdI, RdT, RdS, RdU, RdV. -/
import Derived.Test.YtgoinmdnpaknpaaGreatLebT
import Derived.Laws.Bits64b
import Derived.Test.YtgoinmdnpaknpaaGreatKit1
import Derived.Deep.RegionHeld3

/- Numbers read back from their bytes: plain law. -/
set_option linter.unusedVariables false
set_option linter.unusedSimpArgs false
namespace Go.Proofs.YtgoinmdnpaknpaaGreat
open Go.RowKit
/-- From a place on a text goes on with these bytes. -/
def Stt (s : ByteArray) (a : Nat) (l : List UInt8) : Prop := a ≤ s.size ∧ ∃ rest, s.data.toList.drop a = l ++ rest
theorem Stt.len {s : ByteArray} {a : Nat} {l : List UInt8} (h : Stt s a l) : a + l.length ≤ s.size := by
  obtain ⟨h1, rest, h2⟩ := h
  have h3 := congrArg List.length h2
  rw [List.length_drop, List.length_append, Array.length_toList] at h3
  have h4 : s.data.size = s.size := rfl
  omega
theorem Stt.at {s : ByteArray} {a : Nat} {l : List UInt8} (h : Stt s a l) {k : Nat} (hk : k < l.length) (hs : a + k < s.size) : s[a + k] = l[k] := by
  obtain ⟨h1, rest, h2⟩ := h
  have h3 : (s.data.toList.drop a)[k]? = (l ++ rest)[k]? := by rw [h2]
  rw [List.getElem?_drop, List.getElem?_append_left hk, List.getElem?_eq_getElem hk, List.getElem?_eq_getElem (by rw [Array.length_toList]; exact hs)] at h3
  exact Option.some.inj h3
theorem Stt.left {s : ByteArray} {a : Nat} {l l' : List UInt8} (h : Stt s a (l ++ l')) : Stt s a l := ⟨h.1, by obtain ⟨_, r, h2⟩ := h; exact ⟨l' ++ r, by rw [h2, List.append_assoc]⟩⟩
theorem Stt.right {s : ByteArray} {a : Nat} {l l' : List UInt8} (h : Stt s a (l ++ l')) : Stt s (a + l.length) l' := by
  refine ⟨h.left.len, ?_⟩
  obtain ⟨_, r, h2⟩ := h
  exact ⟨r, by rw [← List.drop_drop, h2, List.append_assoc, List.drop_left]⟩
theorem uB_pos (m : Nat) : 0 < (uB m).length := by
  by_cases h : m < 128
  · rw [uB_small h]; simp
  · rw [uB_big h]; simp
theorem uB_get : ∀ (b m : Nat), m ≤ b → ∀ (k : Nat) (hk : k < (uB m).length), (uB m)[k].toNat % 128 = m / 2 ^ (7 * k) % 128 ∧ ((uB m)[k].toNat < 128 ↔ k + 1 = (uB m).length)
  | b, m, hb, k, hk => by
    by_cases h : m < 128
    · have e := uB_small h
      have hk1 : k = 0 := by have := congrArg List.length e; simp at this; omega
      subst hk1
      simp only [e, List.getElem_cons_zero, List.length_cons, List.length_nil, Nat.mul_zero, Nat.pow_zero, Nat.div_one]
      rw [UInt8.toNat_ofNat']
      exact ⟨by omega, fun _ => by first | trivial | omega, fun _ => by omega⟩
    · have e := uB_big h
      have hp := uB_pos (m / 128)
      cases k with
      | zero =>
        simp only [e, List.getElem_cons_zero, List.length_cons, Nat.mul_zero, Nat.pow_zero, Nat.div_one]
        rw [UInt8.toNat_ofNat']
        exact ⟨by omega, fun h9 => by omega, fun h9 => by omega⟩
      | succ k =>
        have hk2 : k < (uB (m / 128)).length := by have := congrArg List.length e; rw [List.length_cons] at this; omega
        cases b with
        | zero => omega
        | succ b =>
          have ih := uB_get b (m / 128) (by omega) k hk2
          simp only [e, List.getElem_cons_succ, List.length_cons]
          rw [Nat.div_div_eq_div_mul, show 128 * 2 ^ (7 * k) = 2 ^ (7 * (k + 1)) by rw [show 7 * (k + 1) = 7 + 7 * k by omega, Nat.pow_add]] at ih
          refine ⟨ih.1, ?_⟩
          rw [ih.2]; omega
theorem uB_top : ∀ (b m : Nat), m ≤ b → m < 2 ^ (7 * (uB m).length) ∧ (1 < (uB m).length → 2 ^ (7 * ((uB m).length - 1)) ≤ m)
  | b, m, hb => by
    by_cases h : m < 128
    · rw [uB_small h]; simp; omega
    · have hp := uB_pos (m / 128)
      cases b with
      | zero => omega
      | succ b =>
        have ih := uB_top b (m / 128) (by omega)
        rw [uB_big h, List.length_cons]
        obtain ⟨L, hL⟩ : ∃ L, (uB (m / 128)).length = L := ⟨_, rfl⟩
        rw [hL] at ih hp ⊢
        have e1 : 2 ^ (7 * (L + 1)) = 2 ^ (7 * L) * 128 := by rw [show 7 * (L + 1) = 7 * L + 7 by omega, Nat.pow_add]
        refine ⟨by rw [e1]; omega, fun _ => ?_⟩
        rw [Nat.add_sub_cancel]
        by_cases hL1 : 1 < L
        · have h2 := ih.2 hL1
          have e2 : 2 ^ (7 * L) = 2 ^ (7 * (L - 1)) * 128 := by
            conv => lhs; rw [show 7 * L = 7 * (L - 1) + 7 by omega, Nat.pow_add]
          rw [e2]; omega
        · have : L = 1 := by omega
          subst this
          simp; omega
/-- The last byte. -/
theorem uB_last {m k : Nat} (hm : m < 18446744073709551616) (hk : k + 1 = (uB m).length) : (uB m)[k].toNat = m / 2 ^ (7 * k) ∧ (0 < k → 0 < (uB m)[k].toNat) ∧ (k = 9 → (uB m)[k].toNat ≤ 1) := by
  obtain ⟨h1, h2⟩ := uB_get m m (Nat.le_refl _) k (by omega)
  obtain ⟨h3, h4⟩ := uB_top m m (Nat.le_refl _)
  have h5 := h2.2 hk
  rw [← hk] at h3 h4
  have e1 : 2 ^ (7 * (k + 1)) = 2 ^ (7 * k) * 128 := by rw [show 7 * (k + 1) = 7 * k + 7 by omega, Nat.pow_add]
  have h6 : m / 2 ^ (7 * k) < 128 := Nat.div_lt_of_lt_mul (by rw [← e1]; exact h3)
  have h7 : (uB m)[k].toNat = m / 2 ^ (7 * k) := by rw [Nat.mod_eq_of_lt h5, Nat.mod_eq_of_lt h6] at h1; exact h1
  refine ⟨h7, fun h0 => ?_, fun h9 => ?_⟩
  · rw [h7]
    have := h4 (by omega)
    rw [Nat.add_sub_cancel] at this
    exact Nat.div_pos this (Nat.pow_pos (by decide))
  · rw [h7, h9]
    simp only [Nat.reduceMul, Nat.reducePow]
    omega
/-- Seven bits more. -/
theorem or_step (m k : Nat) : (m % 2 ^ (7 * k)) ||| ((m / 2 ^ (7 * k) % 128) * 2 ^ (7 * k)) = m % 2 ^ (7 * (k + 1)) := by
  rw [Nat.or_comm, Nat.mul_comm (m / 2 ^ (7 * k) % 128), ← Nat.two_pow_add_eq_or_of_lt (Nat.mod_lt _ (Nat.pow_pos (by decide)))]
  rw [show 7 * (k + 1) = 7 * k + 7 by omega, Nat.pow_add, show (2 : Nat) ^ 7 = 128 from rfl, Nat.mod_mul]
  omega
end Go.Proofs.YtgoinmdnpaknpaaGreat

/- Numbers read back from their bytes: the program's walks. -/
set_option linter.unusedVariables false
set_option linter.unusedSimpArgs false
set_option maxRecDepth 100000
namespace Go.Proofs.YtgoinmdnpaknpaaGreat
open Go.RowKit
/-- The bytes of a number: all but the last say that there is one more. -/
def Leb (l : List UInt8) : Prop := 0 < l.length ∧ l.length ≤ 10 ∧ ∀ (k : Nat) (hk : k < l.length), (l[k].toNat < 128 ↔ k + 1 = l.length)
theorem uB_leb {m : Nat} (hm : m < 18446744073709551616) : Leb (uB m) := ⟨uB_pos m, u10 hm, fun k hk => (uB_get m m (Nat.le_refl _) k hk).2⟩
/-- What the bytes say. -/
def valB : List UInt8 → Nat
  | [] => 0
  | b :: l => b.toNat % 128 + 128 * valB l
theorem valB_snoc : ∀ (l : List UInt8) (b : UInt8), valB (l ++ [b]) = valB l + b.toNat % 128 * 2 ^ (7 * l.length)
  | [], b => by simp [valB]
  | c :: l, b => by
    rw [List.cons_append]
    simp only [valB, valB_snoc l b, List.length_cons]
    rw [show 7 * (l.length + 1) = 7 + 7 * l.length by omega, Nat.pow_add, show (2 : Nat) ^ 7 = 128 from rfl, Nat.mul_add, Nat.mul_left_comm]
    omega
theorem valB_lt : ∀ (l : List UInt8), valB l < 2 ^ (7 * l.length)
  | [] => by simp [valB]
  | c :: l => by
    have := valB_lt l
    simp only [valB, List.length_cons]
    rw [show 7 * (l.length + 1) = 7 + 7 * l.length by omega, Nat.pow_add, show (2 : Nat) ^ 7 = 128 from rfl]
    omega
theorem valB_uB : ∀ (b m : Nat), m ≤ b → valB (uB m) = m
  | b, m, hb => by
    by_cases h : m < 128
    · rw [uB_small h]; simp only [valB]; rw [UInt8.toNat_ofNat']; omega
    · cases b with
      | zero => omega
      | succ b =>
        rw [uB_big h]
        simp only [valB, valB_uB b (m / 128) (by omega)]
        rw [UInt8.toNat_ofNat']; omega
theorem or_val (x c k : Nat) (hx : x < 2 ^ (7 * k)) (hk : k ≤ 9) : x ||| (c * 2 ^ (7 * k)) % 18446744073709551616 = (x + c * 2 ^ (7 * k)) % 18446744073709551616 := by
  have e : 18446744073709551616 = 2 ^ (7 * k) * 2 ^ (64 - 7 * k) := by rw [← Nat.pow_add, show 7 * k + (64 - 7 * k) = 64 by omega]
  rw [e, Nat.mul_comm c, Nat.mul_mod_mul_left, Nat.or_comm, ← Nat.two_pow_add_eq_or_of_lt hx, Nat.mod_mul, Nat.add_mul_mod_self_left, Nat.mod_eq_of_lt hx, Nat.add_mul_div_left _ _ (Nat.pow_pos (by decide)), Nat.div_eq_of_lt hx, Nat.zero_add]
  omega
/-- There the bytes of a number stand, up to another place. -/
def LebAt (s : ByteArray) (x y : Int) : Prop := ∃ (a : Nat) (l : List UInt8), x = (a : Int) ∧ y = (a : Int) + (l.length : Int) ∧ Stt s a l ∧ Leb l
/-- There a number's own bytes stand. -/
def SndI (s : ByteArray) (x n y : Int) : Prop := ∃ a m : Nat, x = (a : Int) ∧ n = (m : Int) ∧ Stt s a (uB m) ∧ y = (a : Int) + ((uB m).length : Int)
theorem stt_take {s : ByteArray} {a k : Nat} (h : a + k ≤ s.size) : Stt s a ((s.data.toList.drop a).take k) ∧ ((s.data.toList.drop a).take k).length = k := by
  refine ⟨⟨by omega, _, (List.take_append_drop k _).symm⟩, ?_⟩
  have h4 : s.data.size = s.size := rfl
  rw [List.length_take, List.length_drop, Array.length_toList]
  omega
theorem stt_eq {s : ByteArray} {a : Nat} {l : List UInt8} (h : Stt s a l) : (s.data.toList.drop a).take l.length = l := by
  obtain ⟨_, r, h2⟩ := h
  rw [h2, List.take_left]
theorem lebAt_of {s : ByteArray} {a j : Nat} (hj : j < s.size) (haj : a ≤ j) (h10 : j < a + 10) (hb : s[j].toNat < 128) (hall : ∀ k (hk : k < s.size), a ≤ k → k < j → ¬ s[k].toNat < 128) : LebAt s (a : Int) ((j : Int) + 1) := by
  obtain ⟨t1, t2⟩ := stt_take (s := s) (a := a) (k := j + 1 - a) (by omega)
  refine ⟨a, _, rfl, by rw [t2]; omega, t1, by omega, by omega, fun k hk => ?_⟩
  have h1 := t1.at hk (by omega)
  rw [← h1, t2]
  by_cases h : a + k = j
  · subst h; exact ⟨fun _ => by omega, fun _ => hb⟩
  · exact ⟨fun h2 => absurd h2 (hall (a + k) (by omega) (by omega) (by omega)), fun h2 => by omega⟩
theorem uB_valB : ∀ (l : List UInt8), 0 < l.length → (∀ (k : Nat) (hk : k < l.length), (l[k].toNat < 128 ↔ k + 1 = l.length)) → (∀ h : 1 < l.length, 0 < (l[l.length - 1]).toNat) → uB (valB l) = l ∧ 0 < valB l + (if l.length = 1 then 1 else 0)
  | [], h, _, _ => by simp at h
  | [b], _, h1, _ => by
    have h2 := (h1 0 (by simp)).2 rfl
    simp only [List.getElem_cons_zero] at h2
    have e : valB [b] = b.toNat := by simp only [valB]; omega
    rw [e, uB_small h2]
    exact ⟨by simp, by simp⟩
  | b :: c :: l, _, h1, h3 => by
    have hb : ¬ b.toNat < 128 := fun h => by have := (h1 0 (by simp)).1 (by simpa using h); simp at this
    have h4 := h3 (by simp)
    have ih := uB_valB (c :: l) (by simp) (fun k hk => by have := h1 (k + 1) (by simpa using hk); simp only [List.getElem_cons_succ, List.length_cons] at this ⊢; rw [this]; omega) (fun h => by simpa using h4)
    have hv : 0 < valB (c :: l) := by
      by_cases h : (c :: l).length = 1
      · cases l with
        | nil =>
          simp only [List.length_cons, List.length_nil, List.getElem_cons_succ, List.getElem_cons_zero] at h4
          have h5 := (h1 1 (by simp)).2 (by simp)
          simp only [List.getElem_cons_succ, List.getElem_cons_zero] at h5
          simp only [valB]; omega
        | cons d l => simp at h
      · have := ih.2; rw [if_neg h] at this; exact this
    have hbl := b.toNat_lt
    have e : valB (b :: c :: l) = b.toNat % 128 + 128 * valB (c :: l) := rfl
    have hg : ¬ valB (b :: c :: l) < 128 := by omega
    refine ⟨?_, by omega⟩
    rw [uB_big hg, e, show (b.toNat % 128 + 128 * valB (c :: l)) / 128 = valB (c :: l) by omega, ih.1]
    congr 1
    apply UInt8.toNat_inj.1
    rw [UInt8.toNat_ofNat']
    omega
theorem valB_64 {l : List UInt8} (h1 : l.length ≤ 10) (h2 : ∀ h : l.length = 10, l[9].toNat ≤ 1) : valB l < 18446744073709551616 := by
  by_cases h : l.length = 10
  · have h3 := h2 h
    have h6 : l = l.take 9 ++ [l[9]] := by
      rw [← List.take_succ_eq_append_getElem (by omega), List.take_of_length_le (by omega)]
    have h7 := congrArg valB h6
    rw [valB_snoc, List.length_take_of_le (by omega)] at h7
    have h8 := valB_lt (l.take 9)
    rw [List.length_take_of_le (by omega)] at h8
    simp only [Nat.reduceMul, Nat.reducePow] at h7 h8
    omega
  · have h8 := valB_lt l
    have h9 : (2 : Nat) ^ (7 * l.length) ≤ 2 ^ 63 := Nat.pow_le_pow_right (by decide) (by omega)
    have h10 : (2 : Nat) ^ 63 = 9223372036854775808 := rfl
    omega
/-- What is between the places is the number's own bytes. -/
theorem sndI_of {s : ByteArray} {a j q : Nat} (hj : j < s.size) (haj : a ≤ j) (hA : LebAt s (a : Int) ((j : Int) + 1)) (hq : (s[j]).toNat = q) (h10 : j + 1 - a = 10 → q ≤ 1) (h0 : 1 < j + 1 - a → 0 < q) {l : List UInt8} (h1 : Stt s a l) (h2 : l.length = j + 1 - a) : SndI s (a : Int) ((valB l % 18446744073709551616 : Nat) : Int) ((j : Int) + 1) := by
  obtain ⟨a', l', e1, e2, h3, h4⟩ := hA
  have e : a' = a := by omega
  subst e
  have e3 : l'.length = l.length := by omega
  have e4 : l' = l := by rw [← stt_eq h3, ← stt_eq h1, e3]
  subst e4
  have hat := h1.at (k := j - a') (by omega) (by omega)
  simp only [show a' + (j - a') = j by omega] at hat
  rw [hat] at hq
  have h5 := uB_valB l' h4.1 h4.2.2 (fun h => by simp only [show l'.length - 1 = j - a' by omega]; rw [hq]; exact h0 (by omega))
  have h6 := valB_64 h4.2.1 (fun h => by simp only [show (9 : Nat) = j - a' by omega]; rw [hq]; exact h10 (by omega))
  rw [Nat.mod_eq_of_lt h6]
  exact ⟨a', valB l', rfl, rfl, by rw [h5.1]; exact h1, by rw [h5.1]; omega⟩
def RetEnd (s : ByteArray) (at_ : Int) (w : World) (e : Ending) (w' : World) : Prop :=
  ∃ en code : Int, e = .returned (.tuple #[.int .i64 en, .int .i64 code]) ∧ 0 ≤ code ∧ Hid (code = 0 → 0 ≤ at_ ∧ at_ < en ∧ en ≤ at_ + 10 ∧ en ≤ (s.size : Int) ∧ s.size ≤ 2000 ∧ LebAt s at_ en) ∧ Hid (∀ (a : Nat) (l : List UInt8), at_ = (a : Int) → s.size ≤ 2000 → Stt s a l → Leb l → code = 0 ∧ en = (a : Int) + (l.length : Int)) ∧ w = w'
attribute [local irreducible] wpList
theorem implLebEnd (s : ByteArray) (at_ : Int) (w : World) (hs : s.size ≤ maxLen) (hi : I64 at_) :
    Calls Tryz.prog 58 #[.string s, .int .i64 at_] w (RetEnd s at_ w) := by
  unfold maxLen at hs
  by_cases hz : s.size ≤ 2000
  rotate_left
  · have hz1 : (s.size : Int) > 2000 := by omega
    go_enter Tryz.func58, Tryz.ntmps58
    go_wp2_with fail
    refine bodyPost_ret (v := .tuple #[.int .i64 0, .int .i64 1]) (by simp [results, Tryz.results58, go_sem]) rfl ?_
    exact ⟨0, 1, rfl, by omega, Lib.hid (by omega), Lib.hid (by omega), rfl⟩
  have hz1 : ¬ (s.size : Int) > 2000 := by omega
  cases hb : inB at_ 0 (s.size : Int)
  · have HB := Lib.hid hb
    clear hb
    go_enter Tryz.func58, Tryz.ntmps58
    go_wp2_with (go_at_call 65; ((with_reducible refine (implWithin _ _ _ _).mono ?_); rintro e w2 ⟨rfl, rfl⟩; rw [HB.out]))
    refine bodyPost_ret (v := .tuple #[.int .i64 0, .int .i64 1]) (by simp [results, Tryz.results58, go_sem]) rfl ?_
    refine ⟨0, 1, rfl, by omega, Lib.hid (by omega), Lib.hid (fun a l h1 _ h3 _ => ?_), rfl⟩
    have := HB.out
    rw [h1, inB_iff.2 ⟨by omega, by have := h3.1; omega⟩] at this
    exact absurd this (by simp)
  have hin := inB_iff.1 hb
  obtain ⟨a, rfl⟩ := Int.eq_ofNat_of_zero_le hin.1
  have ha : a ≤ s.size := by omega
  have HB := Lib.hid hb
  clear hb hin
  go_enter Tryz.func58, Tryz.ntmps58
  go_wp2_with (go_at_call 65; ((with_reducible refine (implWithin _ _ _ _).mono ?_); rintro e w2 ⟨rfl, rfl⟩; rw [HB.out]))
  go_loop [6] (fun iv => ∃ j : Nat, a ≤ j ∧ j ≤ a + 10 ∧ j ≤ s.size ∧ iv = .int .i64 j ∧ Hid (∀ l, Stt s a l → Leb l → j - a < l.length) ∧ Hid (∀ k (hk : k < s.size), a ≤ k → k < j → ¬ s[k].toNat < 128)) (fun iv => s.size - (intOf iv).toNat)
  case atStart => exact ⟨a, Nat.le_refl _, by omega, ha, rfl, Lib.hid (fun l _ h => by have := h.1; omega), Lib.hid (fun k _ h5 h6 => by omega)⟩
  case round =>
    obtain ⟨j, h1, h2, h3, rfl, HT, HLT⟩ := hrel
    by_cases hlt : j < s.size
    · by_cases hl2 : j < a + 10
      · obtain ⟨v, hv⟩ : ∃ v, s[j] = v := ⟨_, rfl⟩
        have HV := Lib.hid hv
        have hi1 : (j : Int) < (s.size : Int) := by omega
        have hi2 : (j : Int) < (a : Int) + 10 := by omega
        by_cases hb : v.toNat < 128
        · have hbi : (v.toNat : Int) < 128 := by omega
          go_wp2_with fail
          refine bodyPost_ret (v := .tuple #[.int .i64 ((j : Int) + 1), .int .i64 0]) (by simp [results, Tryz.results58, go_sem, HV.out, hbi]) rfl ?_
          refine ⟨_, _, rfl, by omega, Lib.hid (fun _ => ⟨by omega, by omega, by omega, by omega, by omega, lebAt_of hlt h1 hl2 (by rw [HV.out]; exact hb) HLT.out⟩), Lib.hid (fun a2 l ha2 _ h5 h6 => ⟨rfl, ?_⟩), rfl⟩
          have : a2 = a := by omega
          subst this
          have hk := HT.out l h5 h6
          have h7 := (h6.2.2 (j - a2) hk).1 (by
            have := h5.at hk (by have := h5.len; omega)
            rw [← this]
            simp only [show a2 + (j - a2) = j by omega]
            rw [HV.out]; exact hb)
          omega
        · have hbi : ¬ (v.toNat : Int) < 128 := by omega
          go_wp2_with fail
          go_round
          case rel =>
            refine ⟨j + 1, by omega, by omega, by omega, by go_num, Lib.hid (fun l h5 h6 => ?_), Lib.hid (fun k hk h5 h6 => (by
              by_cases h7 : k = j
              · subst h7; rw [HV.out]; exact hb
              · exact HLT.out k hk h5 (by omega)))⟩
            have hk := HT.out l h5 h6
            have h7 : ¬ (j - a) + 1 = l.length := fun h8 => hb (by
              have h9 := (h6.2.2 (j - a) hk).2 h8
              have := h5.at hk (by have := h5.len; omega)
              rw [← this] at h9
              simp only [show a + (j - a) = j by omega] at h9
              rw [HV.out] at h9; exact h9)
            omega
          case measure => simp [intOf]; omega
      · have hi1 : (j : Int) < (s.size : Int) := by omega
        have hi2 : ¬ (j : Int) < (a : Int) + 10 := by omega
        have hi3 : (a : Int) + 10 ≤ (s.size : Int) := by omega
        go_wp2_with fail
        refine bodyPost_ret (v := .tuple #[.int .i64 0, .int .i64 3]) (by simp [results, Tryz.results58, go_sem]) rfl ?_
        exact ⟨0, 3, rfl, by omega, Lib.hid (by omega), Lib.hid (fun a2 l ha2 _ h5 h6 => by
          have e : a2 = a := by omega
          subst e
          have := HT.out l h5 h6
          have := h6.2.1
          omega), rfl⟩
    · have hi1 : ¬ (j : Int) < (s.size : Int) := by omega
      have HN : ∀ l, Stt s a l → Leb l → False := fun l h5 h6 => by
        have := HT.out l h5 h6
        have := h5.len
        omega
      have HN := Lib.hid HN
      by_cases hi3 : (a : Int) + 10 ≤ (s.size : Int)
      · go_wp2_with fail
        refine bodyPost_ret (v := .tuple #[.int .i64 0, .int .i64 3]) (by simp [results, Tryz.results58, go_sem]) rfl ?_
        exact ⟨0, 3, rfl, by omega, Lib.hid (by omega), Lib.hid (fun a2 l ha2 _ h5 h6 => by
          have e : a2 = a := by omega
          subst e
          exact (HN.out l h5 h6).elim), rfl⟩
      · go_wp2_with fail
        refine bodyPost_ret (v := .tuple #[.int .i64 0, .int .i64 2]) (by simp [results, Tryz.results58, go_sem]) rfl ?_
        exact ⟨0, 2, rfl, by omega, Lib.hid (by omega), Lib.hid (fun a2 l ha2 _ h5 h6 => by
          have e : a2 = a := by omega
          subst e
          exact (HN.out l h5 h6).elim), rfl⟩
theorem or_u64 (x y : Nat) (hx : x < 18446744073709551616) (hy : y < 18446744073709551616) : bits .or .u64 (x : Int) (y : Int) = ((x ||| y : Nat) : Int) := bits_or_u64_nat x y hx hy
theorem and127b (c : UInt8) : bits .and .u8 (c.toNat : Int) 127 = ((c.toNat % 128 : Nat) : Int) := by
  have h := and127i (c.toNat : Int)
  have h1 := c.toNat_lt
  have e1 : ((c.toNat : Int) % 256) = (c.toNat : Int) := by omega
  rw [e1] at h
  rw [h]; omega
theorem val_step {x : Nat} {l : List UInt8} {k : Nat} (hk : k ≤ 9) (hl : k < l.length) (hx : x = valB (l.take k) % 18446744073709551616) :
    bits .or .u64 (x : Int) (IntKind.u64.wrap (IntKind.u64.wrap (bits .and .u8 (l[k].toNat : Int) 127) * 2 ^ (7 * k))) = ((valB (l.take (k + 1)) % 18446744073709551616 : Nat) : Int) := by
  have h1 : valB (l.take k) < 2 ^ (7 * k) := by
    have := valB_lt (l.take k)
    rwa [List.length_take_of_le (by omega)] at this
  have h2 : (2 : Nat) ^ (7 * k) ≤ 2 ^ 63 := Nat.pow_le_pow_right (by decide) (by omega)
  have h3 : (2 : Nat) ^ 63 = 9223372036854775808 := rfl
  have h4 : x = valB (l.take k) := by rw [hx]; omega
  obtain ⟨c, hc⟩ : ∃ c, l[k].toNat % 128 = c := ⟨_, rfl⟩
  have e0 : (c : Int) % 18446744073709551616 = (c : Int) := by omega
  rw [and127b, hc, IntKind.wrap_u64, IntKind.wrap_u64, e0]
  have e1 : ((c : Int) * 2 ^ (7 * k)) % 18446744073709551616 = ((c * 2 ^ (7 * k) % 18446744073709551616 : Nat) : Int) := by
    rw [Int.natCast_emod, Int.natCast_mul, Int.natCast_pow]; rfl
  rw [e1, or_u64 _ _ (by omega) (Nat.mod_lt _ (by decide)), h4, or_val _ _ _ h1 hk, List.take_succ_eq_append_getElem hl, valB_snoc, List.length_take_of_le (by omega), hc]
theorem implLebBits (s : ByteArray) (a : Nat) (l : List UInt8) (w : World) (hs : s.size ≤ maxLen) (h : Stt s a l) (hl : l.length ≤ 10) :
    Calls Tryz.prog 59 #[.string s, .int .i64 a, .int .i64 ((a + l.length : Nat) : Int)] w fun e w' => e = .returned (.int .u64 ((valB l % 18446744073709551616 : Nat) : Int)) ∧ w = w' := by
  unfold maxLen at hs
  have hen := h.len
  have HS := Lib.hid h
  obtain ⟨L, hL⟩ : ∃ L, l.length = L := ⟨_, rfl⟩
  have HL := Lib.hid hL
  rw [hL] at hl hen ⊢
  obtain ⟨en, hE⟩ : ∃ en, a + L = en := ⟨_, rfl⟩
  rw [hE]
  clear h hL
  go_enter Tryz.func59, Tryz.ntmps59
  go_wp2_with fail
  go_loop [7, 8] (fun nv iv => ∃ j x : Nat, a ≤ j ∧ j ≤ en ∧ iv = .int .i64 j ∧ nv = .int .u64 x ∧ Hid (x = valB (l.take (j - a)) % 18446744073709551616)) (fun _ iv => en - (intOf iv).toNat)
  case atStart => exact ⟨a, 0, Nat.le_refl _, by omega, rfl, rfl, Lib.hid (by simp [valB])⟩
  case round =>
    obtain ⟨j, x, h1, h2, rfl, rfl, HX⟩ := hrel
    by_cases hlt : j < en
    · obtain ⟨k, rfl⟩ : ∃ k, j = a + k := ⟨j - a, by omega⟩
      have hk9 : k ≤ 9 := by omega
      have hkl : k < l.length := by have := HL.out; omega
      have hjs : a + k < s.size := by omega
      have hat := HS.out.at hkl hjs
      have hv := val_step (x := x) (l := l) (k := k) hk9 hkl (by rw [HX.out, show a + k - a = k by omega])
      go_wp2_with fail
      go_round
      case rel => exact ⟨a + k + 1, valB (l.take (k + 1)) % 18446744073709551616, by omega, by omega, by go_num, congrArg (Value.int .u64) (by first | omega | (rw [hv]; done)), Lib.hid (by rw [show a + k + 1 - a = k + 1 by omega])⟩
      case measure => simp [intOf]; omega
    · have hjn : j = en := by omega
      go_wp2_with fail
      go_ret
      exact ⟨ret_int (by have := HX.out; rw [List.take_of_length_le (by have := HL.out; omega)] at this; omega), rfl⟩
/-- A number is read, or none; where the bytes of a number stand it is that one. -/
def RetU (s : ByteArray) (at_ : Int) (w : World) (e : Ending) (w' : World) : Prop :=
  ∃ (n : Nat) (en code : Int) (ok : Bool), e = .returned (.tuple #[.int .u64 n, .int .i64 en, .int .i64 code, .bool ok]) ∧ n < 18446744073709551616 ∧ Hid (ok = true → 0 ≤ at_ ∧ at_ < en ∧ en ≤ (s.size : Int) ∧ s.size ≤ 2000 ∧ SndI s at_ n en) ∧ Hid (∀ (a m : Nat), at_ = (a : Int) → s.size ≤ 2000 → m < 18446744073709551616 → Stt s a (uB m) → ok = true ∧ n = m ∧ en = (a : Int) + ((uB m).length : Int)) ∧ Hid (ok = false → en = 0) ∧ Below w.heap.size w w'
theorem RetU.no {s : ByteArray} {at_ code : Int} {w w' : World} (h : ∀ (a m : Nat), at_ = (a : Int) → s.size ≤ 2000 → m < 18446744073709551616 → Stt s a (uB m) → False) (hb : Below w.heap.size w w') : RetU s at_ w (.returned (.tuple #[.int .u64 (0 : Int), .int .i64 (0 : Int), .int .i64 code, .bool false])) w' :=
  ⟨0, 0, code, false, rfl, by omega, Lib.hid (fun h => by simp at h), Lib.hid (fun a m h1 h2 h3 h4 => (h a m h1 h2 h3 h4).elim), Lib.hid (fun _ => rfl), hb⟩
set_option maxHeartbeats 1000000 in
theorem implReadU (s : ByteArray) (at_ : Int) (w : World) (hs : s.size ≤ maxLen) (hi : I64 at_) :
    Calls Tryz.prog 26 #[.string s, .int .i64 at_] w (RetU s at_ w) := by
  have hs0 := hs
  unfold maxLen at hs
  go_enter Tryz.func26, Tryz.ntmps26
  go_wp2_with fail
  refine (implLebEnd s at_ w hs0 hi).mono ?_
  rintro e w1 ⟨en, code, rfl, hc0, HA, HT, rfl⟩
  by_cases hc : code = 0
  rotate_left
  · go_wp2_with fail
    refine bodyPost_ret (v := .tuple #[.int .u64 0, .int .i64 0, .int .i64 code, .bool false]) (by simp [results, Tryz.results26, go_sem]) rfl ?_
    exact RetU.no (fun a m h1 h2 h3 h4 => hc (HT.out a _ h1 h2 h4 (uB_leb h3)).1) (Below.refl _ _)
  subst hc
  obtain ⟨g1, g2, g3, g4, g5⟩ := HA.out rfl
  obtain ⟨a, rfl⟩ := Int.eq_ofNat_of_zero_le g1
  obtain ⟨j, rfl⟩ : ∃ j : Nat, en = (j : Int) + 1 := ⟨(en - 1).toNat, by omega⟩
  have hj : j < s.size := by omega
  obtain ⟨q, hq⟩ : ∃ q, (s[j]).toNat = q := ⟨_, rfl⟩
  have HL := Lib.hid (show ∀ m, m < 18446744073709551616 → s.size ≤ 2000 → Stt s a (uB m) → j + 1 = a + (uB m).length ∧ (1 < (uB m).length → 0 < q) ∧ ((uB m).length = 10 → q ≤ 1) from fun m h3 h2 h4 => by
    have h5 := (HT.out a _ rfl h2 h4 (uB_leb h3)).2
    have hp := uB_pos m
    have h6 : j + 1 = a + (uB m).length := by omega
    have h7 := uB_last (m := m) (k := j - a) h3 (by omega)
    have h8 := h4.at (k := j - a) (by omega) (by omega)
    simp only [show a + (j - a) = j by omega] at h8
    rw [← h8, hq] at h7
    exact ⟨h6, fun h => h7.2.1 (by omega), fun h => h7.2.2 (by omega)⟩)
  by_cases hL : (j : Int) + 1 - (a : Int) = 10 ∧ 1 < q
  · have hq1 : (q : Int) > 1 := by omega
    have hq2 := hL.1
    have hq3 : (1 : Int) < (q : Int) := by omega
    go_wp2_with fail
    refine bodyPost_ret (v := .tuple #[.int .u64 0, .int .i64 0, .int .i64 3, .bool false]) (by simp [results, Tryz.results26, go_sem]) rfl ?_
    exact RetU.no (fun a2 m h1 h2 h3 h4 => by
      have e : a2 = a := by omega
      subst e
      have := HL.out m h3 h2 h4
      omega) (Below.refl _ _)
  by_cases hM : (j : Int) + 1 - (a : Int) > 1 ∧ q = 0
  · obtain ⟨hM1, hM2⟩ := hM
    subst hM2
    have hL1 : ¬ (0 : Int) > 1 := by omega
    by_cases hM3 : (j : Int) + 1 - (a : Int) = 10
    all_goals
      go_wp2_with fail
      refine bodyPost_ret (v := .tuple #[.int .u64 0, .int .i64 0, .int .i64 4, .bool false]) (by simp [results, Tryz.results26, go_sem]) rfl ?_
      exact RetU.no (fun a2 m h1 h2 h3 h4 => by
        have e : a2 = a := by omega
        subst e
        have := HL.out m h3 h2 h4
        omega) (Below.refl _ _)
  obtain ⟨t1, t2⟩ := stt_take (s := s) (a := a) (k := j + 1 - a) (by omega)
  obtain ⟨l, hl⟩ : ∃ l, (s.data.toList.drop a).take (j + 1 - a) = l := ⟨_, rfl⟩
  rw [hl] at t1 t2
  have T1 := Lib.hid t1
  have HSN := Lib.hid (sndI_of hj (by omega) g5.2 hq (by omega) (by omega) t1 t2)
  have HV := Lib.hid (show ∀ m, m < 18446744073709551616 → s.size ≤ 2000 → Stt s a (uB m) → valB l = m from fun m h3 h2 h4 => by
    have h5 := (HL.out m h3 h2 h4).1
    have h6 := stt_eq h4
    rw [show (uB m).length = j + 1 - a by omega, hl] at h6
    rw [h6]
    exact valB_uB m m (Nat.le_refl _))
  have hlb := implLebBits s a l w hs0 t1 (by omega)
  rw [t2, show a + (j + 1 - a) = j + 1 by omega, show ((j + 1 : Nat) : Int) = (j : Int) + 1 by omega] at hlb
  have HB := Lib.hid hlb
  obtain ⟨n, hn⟩ : ∃ n, valB l % 18446744073709551616 = n := ⟨_, rfl⟩
  have HN := Lib.hid hn
  rw [hn] at HB HSN
  clear hlb t1 t2 hl hn
  by_cases hL1 : (j : Int) + 1 - (a : Int) = 10
  · have hL2 : ¬ (q : Int) > 1 := by omega
    have hL3 : ¬ (1 : Int) < (q : Int) := by omega
    have hM2 : ¬ q = 0 := by omega
    go_wp2_with fail
    refine HB.out.mono ?_
    rintro e w2 ⟨rfl, rfl⟩
    go_wp2_with fail
    refine bodyPost_ret (v := .tuple #[.int .u64 n, .int .i64 ((j : Int) + 1), .int .i64 0, .bool true]) (by simp [results, Tryz.results26, go_sem]) rfl ?_
    refine ⟨n, _, _, true, rfl, by have := HN.out; omega, Lib.hid (fun _ => ⟨by omega, by omega, by omega, by omega, HSN.out⟩), Lib.hid (fun a2 m h1 h2 h3 h4 => ?_), Lib.hid (fun h => by simp at h), Below.refl _ _⟩
    have e : a2 = a := by omega
    subst e
    have h5 := HV.out m h3 h2 h4
    have h6 := (HL.out m h3 h2 h4).1
    have h7 := HN.out
    rw [h5] at h7
    exact ⟨rfl, by omega, by omega⟩
  by_cases hM3 : (j : Int) + 1 - (a : Int) > 1
  · have hM2 : ¬ q = 0 := by omega
    go_wp2_with fail
    refine HB.out.mono ?_
    rintro e w2 ⟨rfl, rfl⟩
    go_wp2_with fail
    refine bodyPost_ret (v := .tuple #[.int .u64 n, .int .i64 ((j : Int) + 1), .int .i64 0, .bool true]) (by simp [results, Tryz.results26, go_sem]) rfl ?_
    refine ⟨n, _, _, true, rfl, by have := HN.out; omega, Lib.hid (fun _ => ⟨by omega, by omega, by omega, by omega, HSN.out⟩), Lib.hid (fun a2 m h1 h2 h3 h4 => ?_), Lib.hid (fun h => by simp at h), Below.refl _ _⟩
    have e : a2 = a := by omega
    subst e
    have h5 := HV.out m h3 h2 h4
    have h6 := (HL.out m h3 h2 h4).1
    have h7 := HN.out
    rw [h5] at h7
    exact ⟨rfl, by omega, by omega⟩
  · skip
    go_wp2_with fail
    refine HB.out.mono ?_
    rintro e w2 ⟨rfl, rfl⟩
    go_wp2_with fail
    refine bodyPost_ret (v := .tuple #[.int .u64 n, .int .i64 ((j : Int) + 1), .int .i64 0, .bool true]) (by simp [results, Tryz.results26, go_sem]) rfl ?_
    refine ⟨n, _, _, true, rfl, by have := HN.out; omega, Lib.hid (fun _ => ⟨by omega, by omega, by omega, by omega, HSN.out⟩), Lib.hid (fun a2 m h1 h2 h3 h4 => ?_), Lib.hid (fun h => by simp at h), Below.refl _ _⟩
    have e : a2 = a := by omega
    subst e
    have h5 := HV.out m h3 h2 h4
    have h6 := (HL.out m h3 h2 h4).1
    have h7 := HN.out
    rw [h5] at h7
    exact ⟨rfl, by omega, by omega⟩
end Go.Proofs.YtgoinmdnpaknpaaGreat

/- Numbers with a sign read back from their bytes: plain law. -/
set_option linter.unusedVariables false
set_option linter.unusedSimpArgs false
namespace Go.Proofs.YtgoinmdnpaknpaaGreat
open Go.RowKit
theorem sB_pos (n : Int) : 0 < (sB n).length := by
  by_cases h : -64 ≤ n ∧ n ≤ 63
  · rw [sB_small h]; simp
  · rw [sB_big h]; simp
theorem mod_more (n : Int) (M : Int) (hM : 0 < M) : n % 128 + 128 * ((n / 128) % M) = n % (128 * M) := by
  have h1 := Int.mul_ediv_add_emod n 128
  have h2 := Int.mul_ediv_add_emod (n / 128) M
  have h3 := Int.emod_nonneg (n / 128) (show M ≠ 0 by omega)
  have h4 := Int.emod_lt_of_pos (n / 128) hM
  obtain ⟨r, hr⟩ : ∃ r, n / 128 % M = r := ⟨_, rfl⟩
  obtain ⟨q, hq⟩ : ∃ q, n / 128 / M = q := ⟨_, rfl⟩
  obtain ⟨d, hd⟩ : ∃ d, n / 128 = d := ⟨_, rfl⟩
  obtain ⟨x, hx⟩ : ∃ x, n % 128 = x := ⟨_, rfl⟩
  have h5 : 0 ≤ x ∧ x < 128 := by omega
  rw [hr] at h2 h3 h4 ⊢
  rw [hq, hd] at h2
  rw [hd] at h1
  rw [hx] at h1 ⊢
  have h6 : n = (x + 128 * r) + 128 * M * q := by rw [Int.mul_assoc]; omega
  rw [h6, Int.add_mul_emod_self_left, Int.emod_eq_of_lt (by omega) (by omega)]
theorem sB_facts : ∀ (b : Nat) (n : Int), n.natAbs ≤ b → (∀ (k : Nat) (hk : k < (sB n).length), ((sB n)[k].toNat < 128 ↔ k + 1 = (sB n).length)) ∧ (valB (sB n) : Int) = n % 2 ^ (7 * (sB n).length) ∧ -(2 ^ (7 * (sB n).length - 1) : Int) ≤ n ∧ n < 2 ^ (7 * (sB n).length - 1)
  | b, n, hb => by
    by_cases h : -64 ≤ n ∧ n ≤ 63
    · have e := sB_small h
      refine ⟨fun k hk => ?_, ?_, ?_⟩
      · have hk1 : k = 0 := by have := congrArg List.length e; simp at this; omega
        subst hk1
        simp only [e, List.getElem_cons_zero, List.length_cons, List.length_nil]
        rw [UInt8.toNat_ofNat']
        exact ⟨fun _ => by first | trivial | omega, fun _ => by omega⟩
      · rw [e]; simp only [valB, List.length_cons, List.length_nil]; rw [UInt8.toNat_ofNat']
        show _ = n % 128
        omega
      · rw [e]; simp only [List.length_cons, List.length_nil]
        show -64 ≤ n ∧ n < 64
        omega
    · have e := sB_big h
      have hp := sB_pos (n / 128)
      cases b with
      | zero => omega
      | succ b =>
        obtain ⟨i1, i2, i3, i4⟩ := sB_facts b (n / 128) (by omega)
        obtain ⟨L, hL⟩ : ∃ L, (sB (n / 128)).length = L := ⟨_, rfl⟩
        refine ⟨fun k hk => ?_, ?_, ?_⟩
        · cases k with
          | zero =>
            simp only [e, List.getElem_cons_zero, List.length_cons]
            rw [UInt8.toNat_ofNat']
            exact ⟨fun h9 => by omega, fun h9 => by omega⟩
          | succ k =>
            have hk2 : k < (sB (n / 128)).length := by have := congrArg List.length e; rw [List.length_cons] at this; omega
            have ih := i1 k hk2
            simp only [e, List.getElem_cons_succ, List.length_cons]
            rw [ih]; omega
        · rw [e]
          simp only [valB, List.length_cons]
          rw [UInt8.toNat_ofNat']
          rw [hL] at i2 ⊢
          have e2 : (2 : Int) ^ (7 * (L + 1)) = 128 * 2 ^ (7 * L) := by rw [show 7 * (L + 1) = 7 + 7 * L by omega, Int.pow_add]; rfl
          rw [e2, ← mod_more n _ (Int.pow_pos (by decide)), ← i2]
          omega
        · rw [e, List.length_cons]
          rw [hL] at i3 i4 hp ⊢
          have e2 : (2 : Int) ^ (7 * (L + 1) - 1) = 128 * 2 ^ (7 * L - 1) := by rw [show 7 * (L + 1) - 1 = 7 + (7 * L - 1) by omega, Int.pow_add]; rfl
          rw [e2]
          constructor <;> omega
theorem sB_leb {n : Int} (hn : I64 n) : Leb (sB n) := ⟨sB_pos n, s10 hn, (sB_facts _ n (Nat.le_refl _)).1⟩
end Go.Proofs.YtgoinmdnpaknpaaGreat

/- Numbers read back from their bytes: the reference's walks. -/
set_option linter.unusedVariables false
set_option linter.unusedSimpArgs false
set_option maxRecDepth 100000
namespace Go.Proofs.YtgoinmdnpaknpaaGreat
open Go.RowKit
attribute [local irreducible] wpList
theorem specL1Place (s : ByteArray) (at_ : Int) (w : World) :
    Calls Tryz.prog 37 #[.string s, .int .i64 at_] w fun e w' => e = .returned (.bool (decide (s.size ≤ 2000) && inB at_ 0 (s.size : Int))) ∧ w = w' := by
  by_cases hz : s.size ≤ 2000
  · have hz1 : (s.size : Int) ≤ 2000 := by omega
    have HD := Lib.hid (show decide (s.size ≤ 2000) = true by simpa using hz)
    go_enter Tryz.func37, Tryz.ntmps37
    go_wp2_with (go_at_call 49; ((with_reducible refine (specL1In _ _ _ _).mono ?_); rintro e w2 ⟨rfl, rfl⟩))
    go_ret
    exact ⟨by first | rfl | (rw [HD.out]; rfl), rfl⟩
  · have hz1 : ¬ (s.size : Int) ≤ 2000 := by omega
    have HD := Lib.hid (show decide (s.size ≤ 2000) = false by simpa using hz)
    go_enter Tryz.func37, Tryz.ntmps37
    go_wp2_with fail
    go_ret
    exact ⟨by first | rfl | (rw [HD.out]; rfl), rfl⟩
theorem specL1End (s : ByteArray) (a : Nat) (w : World) (hs : s.size ≤ 2000) (ha : a ≤ s.size) :
    Calls Tryz.prog 38 #[.string s, .int .i64 a] w (RetEnd s (a : Int) w) := by
  go_enter Tryz.func38, Tryz.ntmps38
  go_wp2_with fail
  go_loop [6] (fun iv => ∃ k : Nat, k ≤ 9 ∧ a + k ≤ s.size ∧ iv = .int .i64 k ∧ Hid (∀ l, Stt s a l → Leb l → k < l.length) ∧ Hid (∀ i (hi : i < s.size), a ≤ i → i < a + k → ¬ s[i].toNat < 128)) (fun iv => 10 - (intOf iv).toNat)
  case atStart => exact ⟨0, by omega, by omega, rfl, Lib.hid (fun l _ h => by have := h.1; omega), Lib.hid (fun i _ h5 h6 => by omega)⟩
  case round =>
    obtain ⟨k, h1, h2, rfl, HT, HLT⟩ := hrel
    by_cases hlt : a + k = s.size
    · have hi1 : (a : Int) + (k : Int) = (s.size : Int) := by omega
      go_wp2_with fail
      refine bodyPost_ret (v := .tuple #[.int .i64 0, .int .i64 2]) (by simp [results, Tryz.results38, go_sem]) rfl ?_
      exact ⟨0, 2, rfl, by omega, Lib.hid (by omega), Lib.hid (fun a2 l ha2 _ h5 h6 => by
        have e : a2 = a := by omega
        subst e
        have := HT.out l h5 h6
        have := h5.len
        omega), rfl⟩
    · have hi1 : ¬ (a : Int) + (k : Int) = (s.size : Int) := by omega
      have hjs : a + k < s.size := by omega
      obtain ⟨q, hq⟩ : ∃ q, (s[a + k]).toNat = q := ⟨_, rfl⟩
      have HQ := Lib.hid (show ∀ l (h5 : Stt s a l) (h6 : Leb l), (q < 128 ↔ k + 1 = l.length) from fun l h5 h6 => by
        have hk := HT.out l h5 h6
        have h7 := h6.2.2 k hk
        rw [← h5.at hk hjs, hq] at h7
        exact h7)
      by_cases hb : q < 128
      · have hbi : (q : Int) < 128 := by omega
        go_wp2_with fail
        refine bodyPost_ret (v := .tuple #[.int .i64 ((a : Int) + (k : Int) + 1), .int .i64 0]) (by simp [results, Tryz.results38, go_sem]) rfl ?_
        exact ⟨_, _, rfl, by omega, Lib.hid (fun _ => ⟨by omega, by omega, by omega, by omega, by omega, by have h9 := lebAt_of hjs (by omega) (by omega) (by rw [hq]; exact hb) HLT.out; rwa [show ((a + k : Nat) : Int) + 1 = (a : Int) + (k : Int) + 1 by omega] at h9⟩), Lib.hid (fun a2 l ha2 _ h5 h6 => ⟨rfl, by
          have e : a2 = a := by omega
          subst e
          have := (HQ.out l h5 h6).1 hb
          omega⟩), rfl⟩
      · have hbi : ¬ (q : Int) < 128 := by omega
        by_cases h9 : k = 9
        · subst h9
          go_wp2_with fail
          refine bodyPost_ret (v := .tuple #[.int .i64 0, .int .i64 3]) (by simp [results, Tryz.results38, go_sem]) rfl ?_
          exact ⟨0, 3, rfl, by omega, Lib.hid (by omega), Lib.hid (fun a2 l ha2 _ h5 h6 => by
            have e : a2 = a := by omega
            subst e
            have h10 := HT.out l h5 h6
            have h11 := h6.2.1
            have h12 := (HQ.out l h5 h6).2 (by omega)
            exact absurd h12 hb), rfl⟩
        · have h9i : ¬ (k : Int) = 9 := by omega
          go_wp2_with fail
          go_round
          case rel =>
            exact ⟨k + 1, by omega, by omega, by go_num, Lib.hid (fun l h5 h6 => by
              have h10 := HT.out l h5 h6
              have h12 := HQ.out l h5 h6
              by_cases h13 : k + 1 = l.length
              · exact absurd (h12.2 h13) hb
              · omega), Lib.hid (fun i hi h5 h6 => by
              by_cases h7 : i = a + k
              · subst h7; rw [hq]; exact hb
              · exact HLT.out i hi h5 (by omega))⟩
          case measure => simp [intOf]; omega
theorem valB_drop {l : List UInt8} {k : Nat} (hk : k < l.length) : valB (l.drop k) = l[k].toNat % 128 + 128 * valB (l.drop (k + 1)) := by
  rw [List.drop_eq_getElem_cons hk]; rfl
theorem bytes_ne {o t : ByteArray} (E : ¬ o = t) : (!o.toList == t.toList) = true := by
  have hnl : ¬ o.data.toList = t.data.toList := fun h => E (ByteArray.ext (Array.toList_inj.1 h))
  rw [ByteArray.toList_eq, ByteArray.toList_eq]
  simpa using hnl
theorem val_dn {x : Nat} {l : List UInt8} {d : Nat} (hd : d < l.length) (hx : x = valB (l.drop (d + 1)) % 18446744073709551616) :
    IntKind.u64.wrap (IntKind.u64.wrap ((x : Int) * 128) + IntKind.u64.wrap (bits .and .u8 (l[d].toNat : Int) 127)) = ((valB (l.drop d) % 18446744073709551616 : Nat) : Int) := by
  rw [and127b, IntKind.wrap_u64, IntKind.wrap_u64, IntKind.wrap_u64, valB_drop hd]
  omega
set_option maxHeartbeats 2000000 in
theorem specReadU (s : ByteArray) (at_ : Int) (w : World) (hs : s.size ≤ maxLen) (hi : I64 at_) :
    Calls Tryz.prog 19 #[.string s, .int .i64 at_] w (RetU s at_ w) := by
  unfold maxLen at hs
  cases hp : (decide (s.size ≤ 2000) && inB at_ 0 (s.size : Int))
  · have HP := Lib.hid hp
    go_enter Tryz.func19, Tryz.ntmps19
    go_wp2_with fail
    refine (specL1Place s at_ w).mono ?_
    rintro e w1 ⟨rfl, rfl⟩
    rw [hp]
    go_wp2_with fail
    refine bodyPost_ret (v := .tuple #[.int .u64 0, .int .i64 0, .int .i64 1, .bool false]) (by simp [results, Tryz.results19, go_sem]) rfl ?_
    exact RetU.no (fun a m h1 h2 h3 h4 => by
      have h5 := HP.out
      rw [h1, inB_iff.2 ⟨by omega, by have := h4.1; omega⟩] at h5
      simp only [Bool.and_true, decide_eq_false_iff_not] at h5
      exact h5 h2) (Below.refl _ _)
  have hp2 := hp
  rw [Bool.and_eq_true, decide_eq_true_eq] at hp2
  obtain ⟨hz, hin⟩ := hp2
  have hin := inB_iff.1 hin
  obtain ⟨a, rfl⟩ := Int.eq_ofNat_of_zero_le hin.1
  have ha : a ≤ s.size := by omega
  go_enter Tryz.func19, Tryz.ntmps19
  go_wp2_with fail
  refine (specL1Place s (a : Int) w).mono ?_
  rintro e w1 ⟨rfl, rfl⟩
  rw [hp]
  clear hp
  go_wp2_with fail
  refine (specL1End s a w hz ha).mono ?_
  rintro e w1 ⟨en, code, rfl, hc0, HA, HT, rfl⟩
  by_cases hc : code > 0
  · go_wp2_with fail
    refine bodyPost_ret (v := .tuple #[.int .u64 0, .int .i64 0, .int .i64 code, .bool false]) (by simp [results, Tryz.results19, go_sem]) rfl ?_
    exact RetU.no (fun a m h1 h2 h3 h4 => by have := (HT.out a _ h1 h2 h4 (uB_leb h3)).1; omega) (Below.refl _ _)
  have hc1 : code = 0 := by omega
  subst hc1
  clear hc hc0
  obtain ⟨g1, g2, g3, g4, g5⟩ := HA.out rfl
  obtain ⟨j, rfl⟩ : ∃ j : Nat, en = (j : Int) + 1 := ⟨(en - 1).toNat, by omega⟩
  have hj : j < s.size := by omega
  obtain ⟨q, hq⟩ : ∃ q, (s[j]).toNat = q := ⟨_, rfl⟩
  have HL := Lib.hid (show ∀ m, m < 18446744073709551616 → s.size ≤ 2000 → Stt s a (uB m) → j + 1 = a + (uB m).length ∧ ((uB m).length = 10 → q ≤ 1) from fun m h3 h2 h4 => by
    have h5 := (HT.out a _ rfl h2 h4 (uB_leb h3)).2
    have hp := uB_pos m
    have h6 : j + 1 = a + (uB m).length := by omega
    have h7 := uB_last (m := m) (k := j - a) h3 (by omega)
    have h8 := h4.at (k := j - a) (by omega) (by omega)
    simp only [show a + (j - a) = j by omega] at h8
    rw [← h8, hq] at h7
    exact ⟨h6, fun h => h7.2.2 (by omega)⟩)
  by_cases hL : (j : Int) + 1 - (a : Int) = 10 ∧ 1 < q
  · have hq1 : (q : Int) > 1 := by omega
    have hq2 := hL.1
    have hq3 : (1 : Int) < (q : Int) := by omega
    go_wp2_with fail
    refine bodyPost_ret (v := .tuple #[.int .u64 0, .int .i64 0, .int .i64 3, .bool false]) (by simp [results, Tryz.results19, go_sem]) rfl ?_
    exact RetU.no (fun a2 m h1 h2 h3 h4 => by
      have e : a2 = a := by omega
      subst e
      have := HL.out m h3 h2 h4
      omega) (Below.refl _ _)
  obtain ⟨t1, t2⟩ := stt_take (s := s) (a := a) (k := j + 1 - a) (by omega)
  obtain ⟨l, hl⟩ : ∃ l, (s.data.toList.drop a).take (j + 1 - a) = l := ⟨_, rfl⟩
  rw [hl] at t1 t2
  have T1 := Lib.hid t1
  have T2 := Lib.hid t2
  have HV := Lib.hid (show ∀ m, m < 18446744073709551616 → s.size ≤ 2000 → Stt s a (uB m) → l = uB m from fun m h3 h2 h4 => by
    have h5 := (HL.out m h3 h2 h4).1
    have h6 := stt_eq h4
    rw [show (uB m).length = j + 1 - a by omega, hl] at h6
    exact h6)
  clear hl t1 t2
  have aj : a ≤ j := by omega
  have hll : l.length = j + 1 - a := T2.out
  by_cases hL1 : (j : Int) + 1 - (a : Int) = 10
  all_goals
    try have hq1 : ¬ (q : Int) > 1 := by omega
    try have hq2 : ¬ (1 : Int) < (q : Int) := by omega
    go_wp2_with fail
    go_loop [10, 11] (fun nv iv => ∃ i x : Nat, a ≤ i ∧ i ≤ j + 1 ∧ iv = .int .i64 ((i : Int) - 1) ∧ nv = .int .u64 x ∧ x < 18446744073709551616 ∧ Hid (x = valB (l.drop (i - a)) % 18446744073709551616)) (fun _ iv => (intOf iv + 1).toNat)
    case atStart => exact ⟨j + 1, 0, by omega, Nat.le_refl _, congrArg (Value.int .i64) (by omega), rfl, by omega, Lib.hid (by rw [List.drop_of_length_le (by omega)]; simp [valB])⟩
    case round =>
      obtain ⟨i, x, h1, h2, rfl, rfl, hx, HX⟩ := hrel
      by_cases hlt : a < i
      · obtain ⟨d, rfl⟩ : ∃ d, i = a + d + 1 := ⟨i - a - 1, by omega⟩
        have hdl : d < l.length := by omega
        have hds : a + d < s.size := by omega
        have hat := T1.out.at hdl hds
        have hge : ((a : Int) + (d : Int)) ≥ (a : Int) := by omega
        have e1 : ((a + d + 1 : Nat) : Int) - 1 = ((a + d : Nat) : Int) := by omega
        rw [e1]
        have hv := val_dn (x := x) (l := l) (d := d) hdl (by rw [HX.out, show a + d + 1 - a = d + 1 by omega])
        go_wp2_with fail
        go_round
        case rel => exact ⟨a + d, valB (l.drop d) % 18446744073709551616, by omega, by omega, congrArg (Value.int .i64) (by omega), congrArg (Value.int .u64) (by first | omega | (rw [hv]; done)), Nat.mod_lt _ (by decide), Lib.hid (by rw [show a + d - a = d by omega])⟩
        case measure => simp [intOf]; omega
      · have hia : i = a := by omega
        subst hia
        have HX2 := Lib.hid (show x = valB l % 18446744073709551616 by rw [HX.out, Nat.sub_self, List.drop_zero])
        have hlt2 : ¬ ((i : Int) - 1 ≥ (i : Int)) := by omega
        have hjs : (j : Int) + 1 ≤ (s.size : Int) := by omega
        obtain ⟨t, ht⟩ : ∃ t, s.extract i (j + 1) = t := ⟨_, rfl⟩
        have hslc : ∀ V, (Instr.slice 9 (.string s) (some (.int .i64 (i : Int))) (some (.int .i64 ((j : Int) + 1))) none).run Tryz.prog V = .ok (.string t) V := fun V => by
          rw [run_slice_string V 9 s .i64 .i64 (i : Int) ((j : Int) + 1) Tryz.underlying9 (by omega) (by omega) hjs, ← ht]
          simp only [Int.toNat_natCast, show ((j : Int) + 1).toNat = j + 1 by omega]
        have HTT := Lib.hid (show t.data.toList = l by
          have h5 := stt_eq T1.out
          rw [hll] at h5
          rw [← ht, ← h5, ByteArray.data_extract, Array.toList_extract])
        clear ht
        obtain ⟨o, ho⟩ : ∃ o : ByteArray, (⟨(uB x).toArray⟩ : ByteArray) = o := ⟨_, rfl⟩
        have HO := Lib.hid ho
        clear ho
        by_cases E : o = t
        · subst E
          go_wp2_with fail
          go_region_held3 (fun V' => True) (exact trivial)
            (first | (go_at_call 39; ((with_reducible refine (specPutU1 _ x hx).mono ?_); rintro e w5 ⟨rfl, b5⟩; rw [HO.out]; have t5 : Below w.heap.size w w5 := (by exact beloA))))
          go_wp2_with fail
          refine bodyPost_ret (v := .tuple #[.int .u64 x, .int .i64 ((j : Int) + 1), .int .i64 0, .bool true]) (by simp [results, Tryz.results19, go_sem]) rfl ?_
          refine ⟨x, _, _, true, rfl, hx, Lib.hid (fun _ => ⟨by omega, by omega, by omega, by omega, ⟨i, x, rfl, rfl, by rw [show uB x = l by rw [← HTT.out, ← HO.out]]; exact T1.out, by rw [show uB x = l by rw [← HTT.out, ← HO.out]]; omega⟩⟩), Lib.hid (fun a2 m k1 k2 k3 k4 => ?_), Lib.hid (fun h => by simp at h), t5⟩
          have e : a2 = i := by omega
          subst e
          have h5 := HV.out m k3 k2 k4
          have h6 := (HL.out m k3 k2 k4).1
          have h7 := HX2.out
          rw [h5, valB_uB m m (Nat.le_refl _)] at h7
          exact ⟨rfl, by omega, by omega⟩
        · have hne := bytes_ne E
          go_wp2_with fail
          go_region_held3 (fun V' => True) (exact trivial)
            (first | (go_at_call 39; ((with_reducible refine (specPutU1 _ x hx).mono ?_); rintro e w5 ⟨rfl, b5⟩; rw [HO.out]; have t5 : Below w.heap.size w w5 := (by exact beloA))))
          go_wp2_with fail
          refine bodyPost_ret (v := .tuple #[.int .u64 0, .int .i64 0, .int .i64 4, .bool false]) (by simp [results, Tryz.results19, go_sem]) rfl ?_
          exact RetU.no (fun a2 m k1 k2 k3 k4 => by
            have e : a2 = i := by omega
            subst e
            have h5 := HV.out m k3 k2 k4
            have h7 := HX2.out
            rw [h5, valB_uB m m (Nat.le_refl _)] at h7
            have h8 : x = m := by omega
            apply E
            rw [← HO.out, h8, ← h5, ← HTT.out]) t5
end Go.Proofs.YtgoinmdnpaknpaaGreat

/- Numbers with a sign read back: the program's walk. -/
set_option linter.unusedVariables false
set_option linter.unusedSimpArgs false
set_option maxRecDepth 100000
namespace Go.Proofs.YtgoinmdnpaknpaaGreat
open Go.RowKit
theorem sB_last10 {n : Int} (hn : I64 n) {k : Nat} (hk : k < (sB n).length) (hL : (sB n).length = 10) (h9 : k = 9) : (sB n)[k].toNat = 0 ∨ (sB n)[k].toNat = 127 := by
  subst h9
  obtain ⟨h1, h2, h3, h4⟩ := sB_facts _ n (Nat.le_refl _)
  have h5 := (h1 9 hk).2 (by omega)
  have h6 : sB n = (sB n).take 9 ++ [(sB n)[9]] := by
    rw [← List.take_succ_eq_append_getElem hk, List.take_of_length_le (by omega)]
  have h7 := congrArg valB h6
  rw [valB_snoc, List.length_take_of_le (by omega)] at h7
  have h8 := valB_lt ((sB n).take 9)
  rw [List.length_take_of_le (by omega)] at h8
  rw [hL] at h2
  simp only [Nat.reduceMul, Nat.reducePow, Int.reducePow] at h2 h7 h8
  unfold I64 at hn
  omega
/-- Shifted up and down again a number of few bits has its sign. -/
theorem sar {n : Int} {L v : Nat} (h0 : 0 < L) (hL : L < 10) (hv : (v : Int) = n % 2 ^ (7 * L)) (h1 : -(2 ^ (7 * L - 1) : Int) ≤ n) (h2 : n < 2 ^ (7 * L - 1)) : wrap64 ((v : Int) * 2 ^ (64 - 7 * L)) / 2 ^ (64 - 7 * L) = n := by
  have hc : L = 1 ∨ L = 2 ∨ L = 3 ∨ L = 4 ∨ L = 5 ∨ L = 6 ∨ L = 7 ∨ L = 8 ∨ L = 9 := by omega
  unfold wrap64
  rcases hc with rfl | rfl | rfl | rfl | rfl | rfl | rfl | rfl | rfl
  all_goals
    simp only [Nat.reduceMul, Nat.reduceSub, Int.reducePow] at hv h1 h2 ⊢
    omega
theorem i64_sar {x : Int} (h : I64 x) (k : Nat) : I64 (x / 2 ^ k) := by
  unfold I64 at h ⊢
  have hp : (0 : Int) < 2 ^ k := Int.pow_pos (by decide)
  have hp1 : (1 : Int) ≤ 2 ^ k := by omega
  by_cases hx : 0 ≤ x
  · have h1 := Int.ediv_nonneg hx (show (0 : Int) ≤ 2 ^ k by omega)
    have h2 := Int.ediv_le_self (2 ^ k) hx
    omega
  · have h1 : -(9223372036854775808 : Int) ≤ x / 2 ^ k := by
      rw [Int.le_ediv_iff_mul_le hp]
      generalize (2 : Int) ^ k = y at hp1 ⊢
      omega
    have h2 : x / 2 ^ k < 0 := Int.ediv_neg_of_neg_of_pos (by omega) hp
    omega
/-- A number with a sign is read, or none; where the bytes of one stand it is that one. -/
def RetSg (s : ByteArray) (at_ : Int) (w : World) (e : Ending) (w' : World) : Prop :=
  ∃ (n en code : Int) (ok : Bool), e = .returned (.tuple #[.int .i64 n, .int .i64 en, .int .i64 code, .bool ok]) ∧ I64 n ∧ Hid (ok = true → 0 ≤ at_ ∧ at_ < en ∧ en ≤ (s.size : Int) ∧ s.size ≤ 2000) ∧ Hid (∀ (a : Nat) (m : Int), at_ = (a : Int) → s.size ≤ 2000 → I64 m → Stt s a (sB m) → ok = true ∧ n = m ∧ en = (a : Int) + ((sB m).length : Int)) ∧ Hid (ok = false → en = 0) ∧ Below w.heap.size w w'
theorem RetSg.no {s : ByteArray} {at_ code : Int} {w w' : World} (h : ∀ (a : Nat) (m : Int), at_ = (a : Int) → s.size ≤ 2000 → I64 m → Stt s a (sB m) → False) (hb : Below w.heap.size w w') : RetSg s at_ w (.returned (.tuple #[.int .i64 (0 : Int), .int .i64 (0 : Int), .int .i64 code, .bool false])) w' :=
  ⟨0, 0, code, false, rfl, by unfold I64; omega, Lib.hid (fun h => by simp at h), Lib.hid (fun a m h1 h2 h3 h4 => (h a m h1 h2 h3 h4).elim), Lib.hid (fun _ => rfl), hb⟩
attribute [local irreducible] wpList
theorem i64_wrap (x : Int) : I64 (wrap64 x) := by unfold I64 wrap64; omega
set_option maxHeartbeats 1000000 in
theorem implReadS (s : ByteArray) (at_ : Int) (w : World) (hs : s.size ≤ maxLen) (hi : I64 at_) :
    Calls Tryz.prog 84 #[.string s, .int .i64 at_] w (RetSg s at_ w) := by
  have hs0 := hs
  unfold maxLen at hs
  go_enter Tryz.func84, Tryz.ntmps84
  go_wp2_with fail
  refine (implLebEnd s at_ w hs0 hi).mono ?_
  rintro e w1 ⟨en, code, rfl, hc0, HA, HT, rfl⟩
  by_cases hc : code = 0
  rotate_left
  · go_wp2_with fail
    refine bodyPost_ret (v := .tuple #[.int .i64 0, .int .i64 0, .int .i64 code, .bool false]) (by simp [results, Tryz.results84, go_sem]) rfl ?_
    exact RetSg.no (fun a m h1 h2 h3 h4 => hc (HT.out a _ h1 h2 h4 (sB_leb h3)).1) (Below.refl _ _)
  subst hc
  obtain ⟨g1, g2, g3, g4, g5⟩ := HA.out rfl
  obtain ⟨a, rfl⟩ := Int.eq_ofNat_of_zero_le g1
  obtain ⟨j, rfl⟩ : ∃ j : Nat, en = (j : Int) + 1 := ⟨(en - 1).toNat, by omega⟩
  have hj : j < s.size := by omega
  obtain ⟨q, hq⟩ : ∃ q, (s[j]).toNat = q := ⟨_, rfl⟩
  have HL := Lib.hid (show ∀ m, I64 m → s.size ≤ 2000 → Stt s a (sB m) → j + 1 = a + (sB m).length ∧ ((sB m).length = 10 → q = 0 ∨ q = 127) from fun m h3 h2 h4 => by
    have h5 := (HT.out a _ rfl h2 h4 (sB_leb h3)).2
    have hp := sB_pos m
    have h6 : j + 1 = a + (sB m).length := by omega
    have h8 := h4.at (k := j - a) (by omega) (by omega)
    simp only [show a + (j - a) = j by omega] at h8
    refine ⟨h6, fun h => ?_⟩
    have h9 := sB_last10 h3 (k := j - a) (by omega) h (by omega)
    rw [← h8, hq] at h9
    exact h9)
  by_cases hL : (j : Int) + 1 - (a : Int) = 10 ∧ q ≠ 0 ∧ q ≠ 127
  · obtain ⟨hL1, hL2, hL3⟩ := hL
    have hL4 : ¬ (q : Int) = 0 := by omega
    have hL5 : ¬ (q : Int) = 127 := by omega
    have hL6 : ((q : Int) != 0) = true := bne_iff_ne.2 hL4
    have hL7 : ((q : Int) != 127) = true := bne_iff_ne.2 hL5
    go_wp2_with fail
    refine bodyPost_ret (v := .tuple #[.int .i64 0, .int .i64 0, .int .i64 3, .bool false]) (by simp [results, Tryz.results84, go_sem]) rfl ?_
    exact RetSg.no (fun a2 m h1 h2 h3 h4 => by
      have e : a2 = a := by omega
      subst e
      have := HL.out m h3 h2 h4
      omega) (Below.refl _ _)
  obtain ⟨t1, t2⟩ := stt_take (s := s) (a := a) (k := j + 1 - a) (by omega)
  obtain ⟨l, hl⟩ : ∃ l, (s.data.toList.drop a).take (j + 1 - a) = l := ⟨_, rfl⟩
  rw [hl] at t1 t2
  have T1 := Lib.hid t1
  have T2 := Lib.hid t2
  have HV := Lib.hid (show ∀ m, I64 m → s.size ≤ 2000 → Stt s a (sB m) → l = sB m from fun m h3 h2 h4 => by
    have h5 := (HL.out m h3 h2 h4).1
    have h6 := stt_eq h4
    rw [show (sB m).length = j + 1 - a by omega, hl] at h6
    exact h6)
  have hlb := implLebBits s a l w hs0 t1 (by omega)
  rw [t2, show a + (j + 1 - a) = j + 1 by omega, show ((j + 1 : Nat) : Int) = (j : Int) + 1 by omega] at hlb
  have HB := Lib.hid hlb
  obtain ⟨n, hn⟩ : ∃ n, valB l % 18446744073709551616 = n := ⟨_, rfl⟩
  have HN := Lib.hid hn
  rw [hn] at HB
  clear hlb t1 t2 hl hn
  have hn64 : n < 18446744073709551616 := by have := HN.out; omega
  by_cases hL10 : (j : Int) + 1 - (a : Int) = 10
  · have hq0 : q = 0 ∨ q = 127 := by omega
    have hlt10 : ¬ (j : Int) + 1 - (a : Int) < 10 := by omega
    rcases hq0 with rfl | rfl
    all_goals
      go_wp2_with fail
      refine HB.out.mono ?_
      rintro e w2 ⟨rfl, rfl⟩
      go_wp2_with fail
      obtain ⟨z, hz⟩ : ∃ z, wrap64 (n : Int) = z := ⟨_, rfl⟩
      have HZ : I64 z := by rw [← hz]; exact i64_wrap _
      have HZT := Lib.hid (show ∀ m, I64 m → s.size ≤ 2000 → Stt s a (sB m) → z = m from fun m h3 h2 h4 => by
        have h5 := HV.out m h3 h2 h4
        have h6 := (HL.out m h3 h2 h4).1
        have h7 := HN.out
        rw [h5] at h7
        obtain ⟨_, f2, f3, f4⟩ := sB_facts _ m (Nat.le_refl _)
        rw [← hz]
        have hLL : (sB m).length = 10 := by omega
        rw [hLL] at f2
        simp only [Nat.reduceMul, Int.reducePow] at f2
        unfold I64 at h3
        unfold wrap64
        omega)
      rw [hz]
      clear hz
      have hll : l.length = j + 1 - a := T2.out
      have hjs : (j : Int) + 1 ≤ (s.size : Int) := by omega
      obtain ⟨t, ht⟩ : ∃ t, s.extract a (j + 1) = t := ⟨_, rfl⟩
      have hslc : ∀ V, (Instr.slice 9 (.string s) (some (.int .i64 (a : Int))) (some (.int .i64 ((j : Int) + 1))) none).run Tryz.prog V = .ok (.string t) V := fun V => by
        rw [run_slice_string V 9 s .i64 .i64 (a : Int) ((j : Int) + 1) Tryz.underlying9 (by omega) (by omega) hjs, ← ht]
        simp only [Int.toNat_natCast, show ((j : Int) + 1).toNat = j + 1 by omega]
      have HTT := Lib.hid (show t.data.toList = l by
        have h5 := stt_eq T1.out
        rw [hll] at h5
        rw [← ht, ← h5, ByteArray.data_extract, Array.toList_extract])
      clear ht
      obtain ⟨o, ho⟩ : ∃ o : ByteArray, (⟨(sB z).toArray⟩ : ByteArray) = o := ⟨_, rfl⟩
      have HO := Lib.hid ho
      clear ho
      by_cases E : o = t
      · subst E
        go_region_held3 (fun V' => True) (exact trivial)
          (first | (go_at_call 88; ((with_reducible refine (implPutS _ z HZ).mono ?_); rintro e w5 ⟨rfl, b5⟩; rw [HO.out]; have t5 : Below w.heap.size w w5 := (by exact beloA))))
        go_wp2_with fail
        refine bodyPost_ret (v := .tuple #[.int .i64 z, .int .i64 ((j : Int) + 1), .int .i64 0, .bool true]) (by simp [results, Tryz.results84, go_sem]) rfl ?_
        refine ⟨z, _, _, true, rfl, HZ, Lib.hid (fun _ => ⟨by omega, by omega, by omega, by omega⟩), Lib.hid (fun a2 m k1 k2 k3 k4 => ?_), Lib.hid (fun h => by simp at h), t5⟩
        have e : a2 = a := by omega
        subst e
        have h6 := (HL.out m k3 k2 k4).1
        exact ⟨rfl, HZT.out m k3 k2 k4, by omega⟩
      · have hne := bytes_ne E
        go_region_held3 (fun V' => True) (exact trivial)
          (first | (go_at_call 88; ((with_reducible refine (implPutS _ z HZ).mono ?_); rintro e w5 ⟨rfl, b5⟩; rw [HO.out]; have t5 : Below w.heap.size w w5 := (by exact beloA))))
        go_wp2_with fail
        refine bodyPost_ret (v := .tuple #[.int .i64 0, .int .i64 0, .int .i64 4, .bool false]) (by simp [results, Tryz.results84, go_sem]) rfl ?_
        exact RetSg.no (fun a2 m k1 k2 k3 k4 => by
          have e : a2 = a := by omega
          subst e
          apply E
          rw [← HO.out, HZT.out m k3 k2 k4, ← HV.out m k3 k2 k4, ← HTT.out]) t5
  · have hlt10 : (j : Int) + 1 - (a : Int) < 10 := by omega
    go_wp2_with fail
    refine HB.out.mono ?_
    rintro e w2 ⟨rfl, rfl⟩
    obtain ⟨B, hB⟩ : ∃ B : Nat, 64 - 7 * ((j : Int) + 1 - (a : Int)) = (B : Int) := ⟨(64 - 7 * ((j : Int) + 1 - (a : Int))).toNat, by omega⟩
    have hB2 : B ≤ 64 := by omega
    have hB3 : min B 64 = B := by omega
    go_wp2_with fail
    obtain ⟨z, hz⟩ : ∃ z, wrap64 (wrap64 (n : Int) * 2 ^ B) / 2 ^ B = z := ⟨_, rfl⟩
    have HZ : I64 z := by rw [← hz]; exact i64_sar (i64_wrap _) _
    have HZT := Lib.hid (show ∀ m, I64 m → s.size ≤ 2000 → Stt s a (sB m) → z = m from fun m h3 h2 h4 => by
      have h5 := HV.out m h3 h2 h4
      have h6 := (HL.out m h3 h2 h4).1
      have h7 := HN.out
      rw [h5] at h7
      obtain ⟨_, f2, f3, f4⟩ := sB_facts _ m (Nat.le_refl _)
      rw [← hz]
      have hBL : B = 64 - 7 * (sB m).length := by omega
      have h8 := valB_lt (sB m)
      have h9 : 2 ^ (7 * (sB m).length) ≤ 2 ^ 63 := Nat.pow_le_pow_right (n := 2) (by decide) (by omega)
      have h10 : (2 : Nat) ^ 63 = 9223372036854775808 := rfl
      have h11 : n = valB (sB m) := by omega
      rw [wrap_small (n := (n : Int)) (by omega) (by omega), h11, hBL]
      exact sar (sB_pos m) (by omega) f2 f3 f4)
    rw [hz]
    clear hz
    have hll : l.length = j + 1 - a := T2.out
    have hjs : (j : Int) + 1 ≤ (s.size : Int) := by omega
    obtain ⟨t, ht⟩ : ∃ t, s.extract a (j + 1) = t := ⟨_, rfl⟩
    have hslc : ∀ V, (Instr.slice 9 (.string s) (some (.int .i64 (a : Int))) (some (.int .i64 ((j : Int) + 1))) none).run Tryz.prog V = .ok (.string t) V := fun V => by
      rw [run_slice_string V 9 s .i64 .i64 (a : Int) ((j : Int) + 1) Tryz.underlying9 (by omega) (by omega) hjs, ← ht]
      simp only [Int.toNat_natCast, show ((j : Int) + 1).toNat = j + 1 by omega]
    have HTT := Lib.hid (show t.data.toList = l by
      have h5 := stt_eq T1.out
      rw [hll] at h5
      rw [← ht, ← h5, ByteArray.data_extract, Array.toList_extract])
    clear ht
    obtain ⟨o, ho⟩ : ∃ o : ByteArray, (⟨(sB z).toArray⟩ : ByteArray) = o := ⟨_, rfl⟩
    have HO := Lib.hid ho
    clear ho
    by_cases E : o = t
    · subst E
      go_region_held3 (fun V' => True) (exact trivial)
        (first | (go_at_call 88; ((with_reducible refine (implPutS _ z HZ).mono ?_); rintro e w5 ⟨rfl, b5⟩; rw [HO.out]; have t5 : Below w.heap.size w w5 := (by exact beloA))))
      go_wp2_with fail
      refine bodyPost_ret (v := .tuple #[.int .i64 z, .int .i64 ((j : Int) + 1), .int .i64 0, .bool true]) (by simp [results, Tryz.results84, go_sem]) rfl ?_
      refine ⟨z, _, _, true, rfl, HZ, Lib.hid (fun _ => ⟨by omega, by omega, by omega, by omega⟩), Lib.hid (fun a2 m k1 k2 k3 k4 => ?_), Lib.hid (fun h => by simp at h), t5⟩
      have e : a2 = a := by omega
      subst e
      have h6 := (HL.out m k3 k2 k4).1
      exact ⟨rfl, HZT.out m k3 k2 k4, by omega⟩
    · have hne := bytes_ne E
      go_region_held3 (fun V' => True) (exact trivial)
        (first | (go_at_call 88; ((with_reducible refine (implPutS _ z HZ).mono ?_); rintro e w5 ⟨rfl, b5⟩; rw [HO.out]; have t5 : Below w.heap.size w w5 := (by exact beloA))))
      go_wp2_with fail
      refine bodyPost_ret (v := .tuple #[.int .i64 0, .int .i64 0, .int .i64 4, .bool false]) (by simp [results, Tryz.results84, go_sem]) rfl ?_
      exact RetSg.no (fun a2 m k1 k2 k3 k4 => by
        have e : a2 = a := by omega
        subst e
        apply E
        rw [← HO.out, HZT.out m k3 k2 k4, ← HV.out m k3 k2 k4, ← HTT.out]) t5
end Go.Proofs.YtgoinmdnpaknpaaGreat

/- Numbers with a sign read back: the reference's walk. -/
set_option linter.unusedVariables false
set_option linter.unusedSimpArgs false
set_option maxRecDepth 100000
namespace Go.Proofs.YtgoinmdnpaknpaaGreat
open Go.RowKit
attribute [local irreducible] wpList
theorem val_ds {x sg : Int} {l : List UInt8} {d t : Nat} (hd : d < l.length) (hx : x = wrap64 (sg * 2 ^ (7 * t) + (valB (l.drop (d + 1)) : Int))) :
    wrap64 (wrap64 (x * 128) + wrap64 (bits .and .u8 (l[d].toNat : Int) 127)) = wrap64 (sg * 2 ^ (7 * (t + 1)) + (valB (l.drop d) : Int)) := by
  have e : sg * (2 : Int) ^ (7 * (t + 1)) = 128 * (sg * 2 ^ (7 * t)) := by rw [show 7 * (t + 1) = 7 + 7 * t by omega, Int.pow_add, show (2 : Int) ^ 7 = 128 from rfl, Int.mul_left_comm]
  rw [and127b, valB_drop hd, e]
  generalize sg * (2 : Int) ^ (7 * t) = y at hx ⊢
  unfold wrap64 at hx ⊢
  omega
theorem ds_0 : (0 : Int) = wrap64 (0 * 2 ^ (7 * 0) + ((valB [] : Nat) : Int)) := by simp only [valB, Nat.mul_zero, Int.pow_zero]; unfold wrap64; omega
theorem ds_1 : (-1 : Int) = wrap64 (-1 * 2 ^ (7 * 0) + ((valB [] : Nat) : Int)) := by simp only [valB, Nat.mul_zero, Int.pow_zero]; unfold wrap64; omega
/-- The sign from the last byte. -/
theorem sB_sign {m : Int} (hm : I64 m) {q k : Nat} (hk : k + 1 = (sB m).length) (hq : (sB m)[k].toNat = q) : (if 64 ≤ q then (-1 : Int) else 0) * 2 ^ (7 * (sB m).length) + (valB (sB m) : Int) = m := by
  obtain ⟨h1, h2, h3, h4⟩ := sB_facts _ m (Nat.le_refl _)
  have h5 := (h1 k (by omega)).2 hk
  have h6 : sB m = (sB m).take k ++ [(sB m)[k]] := by
    rw [← List.take_succ_eq_append_getElem (by omega), List.take_of_length_le (by omega)]
  have h7 := congrArg valB h6
  rw [valB_snoc, List.length_take_of_le (by omega), Nat.mod_eq_of_lt h5, hq] at h7
  have h8 := valB_lt ((sB m).take k)
  rw [List.length_take_of_le (by omega)] at h8
  have h10 := s10 hm
  rw [← hk] at h2 h3 h4 ⊢
  have hc : k = 0 ∨ k = 1 ∨ k = 2 ∨ k = 3 ∨ k = 4 ∨ k = 5 ∨ k = 6 ∨ k = 7 ∨ k = 8 ∨ k = 9 := by omega
  rw [hq] at h5
  generalize valB (sB m) = v at h2 h7 ⊢
  generalize valB ((sB m).take k) = u at h7 h8
  clear h1 h6 hq hk
  rcases hc with rfl | rfl | rfl | rfl | rfl | rfl | rfl | rfl | rfl | rfl
  all_goals
    simp only [Nat.reduceMul, Nat.reduceAdd, Nat.reduceSub, Int.reducePow, Nat.reducePow] at h2 h3 h4 h7 h8 ⊢
    split <;> omega
set_option maxHeartbeats 2000000 in
theorem specReadS (s : ByteArray) (at_ : Int) (w : World) (hs : s.size ≤ maxLen) (hi : I64 at_) :
    Calls Tryz.prog 80 #[.string s, .int .i64 at_] w (RetSg s at_ w) := by
  unfold maxLen at hs
  cases hp : (decide (s.size ≤ 2000) && inB at_ 0 (s.size : Int))
  · have HP := Lib.hid hp
    go_enter Tryz.func80, Tryz.ntmps80
    go_wp2_with fail
    refine (specL1Place s at_ w).mono ?_
    rintro e w1 ⟨rfl, rfl⟩
    rw [hp]
    go_wp2_with fail
    refine bodyPost_ret (v := .tuple #[.int .i64 0, .int .i64 0, .int .i64 1, .bool false]) (by simp [results, Tryz.results80, go_sem]) rfl ?_
    exact RetSg.no (fun a m h1 h2 h3 h4 => by
      have h5 := HP.out
      rw [h1, inB_iff.2 ⟨by omega, by have := h4.1; omega⟩] at h5
      simp only [Bool.and_true, decide_eq_false_iff_not] at h5
      exact h5 h2) (Below.refl _ _)
  have hp2 := hp
  rw [Bool.and_eq_true, decide_eq_true_eq] at hp2
  obtain ⟨hz, hin⟩ := hp2
  have hin := inB_iff.1 hin
  obtain ⟨a, rfl⟩ := Int.eq_ofNat_of_zero_le hin.1
  have ha : a ≤ s.size := by omega
  go_enter Tryz.func80, Tryz.ntmps80
  go_wp2_with fail
  refine (specL1Place s (a : Int) w).mono ?_
  rintro e w1 ⟨rfl, rfl⟩
  rw [hp]
  clear hp
  go_wp2_with fail
  refine (specL1End s a w hz ha).mono ?_
  rintro e w1 ⟨en, code, rfl, hc0, HA, HT, rfl⟩
  by_cases hc : code > 0
  · go_wp2_with fail
    refine bodyPost_ret (v := .tuple #[.int .i64 0, .int .i64 0, .int .i64 code, .bool false]) (by simp [results, Tryz.results80, go_sem]) rfl ?_
    exact RetSg.no (fun a m h1 h2 h3 h4 => by have := (HT.out a _ h1 h2 h4 (sB_leb h3)).1; omega) (Below.refl _ _)
  have hc1 : code = 0 := by omega
  subst hc1
  clear hc hc0
  obtain ⟨g1, g2, g3, g4, g5⟩ := HA.out rfl
  obtain ⟨j, rfl⟩ : ∃ j : Nat, en = (j : Int) + 1 := ⟨(en - 1).toNat, by omega⟩
  have hj : j < s.size := by omega
  obtain ⟨q, hq⟩ : ∃ q, (s[j]).toNat = q := ⟨_, rfl⟩
  have HL := Lib.hid (show ∀ m, I64 m → s.size ≤ 2000 → Stt s a (sB m) → j + 1 = a + (sB m).length ∧ ((sB m).length = 10 → q = 0 ∨ q = 127) ∧ (if 64 ≤ q then (-1 : Int) else 0) * 2 ^ (7 * (sB m).length) + (valB (sB m) : Int) = m from fun m h3 h2 h4 => by
    have h5 := (HT.out a _ rfl h2 h4 (sB_leb h3)).2
    have hp := sB_pos m
    have h6 : j + 1 = a + (sB m).length := by omega
    have h8 := h4.at (k := j - a) (by omega) (by omega)
    simp only [show a + (j - a) = j by omega] at h8
    refine ⟨h6, fun h => ?_, ?_⟩
    · have h9 := sB_last10 h3 (k := j - a) (by omega) h (by omega)
      rw [← h8, hq] at h9
      exact h9
    · exact sB_sign h3 (k := j - a) (by omega) (by rw [← h8]; exact hq))
  by_cases hL : (j : Int) + 1 - (a : Int) = 10 ∧ q ≠ 0 ∧ q ≠ 127
  · obtain ⟨hL1, hL2, hL3⟩ := hL
    have hL4 : ¬ (q : Int) = 0 := by omega
    have hL5 : ¬ (q : Int) = 127 := by omega
    have hL6 : ((q : Int) != 0) = true := bne_iff_ne.2 hL4
    have hL7 : ((q : Int) != 127) = true := bne_iff_ne.2 hL5
    go_wp2_with fail
    refine bodyPost_ret (v := .tuple #[.int .i64 0, .int .i64 0, .int .i64 3, .bool false]) (by simp [results, Tryz.results80, go_sem]) rfl ?_
    exact RetSg.no (fun a2 m h1 h2 h3 h4 => by
      have e : a2 = a := by omega
      subst e
      have := (HL.out m h3 h2 h4).2.1
      have := (HL.out m h3 h2 h4).1
      omega) (Below.refl _ _)
  obtain ⟨t1, t2⟩ := stt_take (s := s) (a := a) (k := j + 1 - a) (by omega)
  obtain ⟨l, hl⟩ : ∃ l, (s.data.toList.drop a).take (j + 1 - a) = l := ⟨_, rfl⟩
  rw [hl] at t1 t2
  have T1 := Lib.hid t1
  have T2 := Lib.hid t2
  have HV := Lib.hid (show ∀ m, I64 m → s.size ≤ 2000 → Stt s a (sB m) → l = sB m from fun m h3 h2 h4 => by
    have h5 := (HL.out m h3 h2 h4).1
    have h6 := stt_eq h4
    rw [show (sB m).length = j + 1 - a by omega, hl] at h6
    exact h6)
  clear hl t1 t2
  have aj : a ≤ j := by omega
  have hll : l.length = j + 1 - a := T2.out
  obtain ⟨sg, hsg⟩ : ∃ sg : Int, (if 64 ≤ q then (-1 : Int) else 0) = sg := ⟨_, rfl⟩
  have HSG := Lib.hid hsg
  rw [hsg] at HL
  clear hsg
  have hcase : ((j : Int) + 1 - (a : Int) = 10 ∧ q = 0 ∧ sg = 0) ∨ ((j : Int) + 1 - (a : Int) = 10 ∧ q = 127 ∧ sg = -1) ∨ (¬ (j : Int) + 1 - (a : Int) = 10 ∧ q ≥ 64 ∧ sg = -1) ∨ (¬ (j : Int) + 1 - (a : Int) = 10 ∧ ¬ q ≥ 64 ∧ sg = 0) := by
    have h1 := HSG.out
    split at h1 <;> omega
  rcases hcase with ⟨hL1, rfl, hsg⟩ | ⟨hL1, rfl, hsg⟩ | ⟨hL1, hq64, hsg⟩ | ⟨hL1, hq64, hsg⟩
  all_goals
    try have hq65 : (q : Int) ≥ 64 := by omega
    try have hq66 : ¬ (q : Int) ≥ 64 := by omega
    go_wp2_with fail
    go_loop [10, 11] (fun nv iv => ∃ (i : Nat) (x : Int), a ≤ i ∧ i ≤ j + 1 ∧ iv = .int .i64 ((i : Int) - 1) ∧ nv = .int .i64 x ∧ Hid (x = wrap64 (sg * 2 ^ (7 * (j + 1 - i)) + (valB (l.drop (i - a)) : Int)))) (fun _ iv => (intOf iv + 1).toNat)
    case atStart => exact ⟨j + 1, sg, by omega, Nat.le_refl _, congrArg (Value.int .i64) (by omega), by rw [hsg], Lib.hid (by rw [List.drop_of_length_le (by omega), hsg, Nat.sub_self]; first | exact ds_0 | exact ds_1)⟩
    case round =>
      obtain ⟨i, x, h1, h2, rfl, rfl, HX⟩ := hrel
      by_cases hlt : a < i
      · obtain ⟨d, rfl⟩ : ∃ d, i = a + d + 1 := ⟨i - a - 1, by omega⟩
        have hdl : d < l.length := by omega
        have hds : a + d < s.size := by omega
        have hat := T1.out.at hdl hds
        have hge : ((a : Int) + (d : Int)) ≥ (a : Int) := by omega
        have e1 : ((a + d + 1 : Nat) : Int) - 1 = ((a + d : Nat) : Int) := by omega
        rw [e1]
        have hv := val_ds (x := x) (sg := sg) (l := l) (d := d) (t := j + 1 - (a + d + 1)) hdl (by rw [HX.out, show a + d + 1 - a = d + 1 by omega])
        rw [show j + 1 - (a + d + 1) + 1 = j + 1 - (a + d) by omega] at hv
        have HVV := Lib.hid hv
        clear hv hsg
        go_wp2_with fail
        go_round
        case rel => exact ⟨a + d, wrap64 (sg * 2 ^ (7 * (j + 1 - (a + d))) + (valB (l.drop d) : Int)), by omega, by omega, congrArg (Value.int .i64) (by omega), congrArg (Value.int .i64) HVV.out, Lib.hid (by rw [show a + d - a = d by omega])⟩
        case measure => simp [intOf]; omega
      · have hia : i = a := by omega
        subst hia
        have HZT := Lib.hid (show ∀ m, I64 m → s.size ≤ 2000 → Stt s i (sB m) → x = m from fun m k3 k2 k4 => by
          have h5 := HV.out m k3 k2 k4
          have h6 := (HL.out m k3 k2 k4).1
          have h7 := (HL.out m k3 k2 k4).2.2
          rw [HX.out, Nat.sub_self, List.drop_zero, h5, show j + 1 - i = (sB m).length by omega, h7]
          unfold I64 at k3; unfold wrap64; omega)
        have HZ : I64 x := by rw [HX.out]; exact i64_wrap _
        have hlt2 : ¬ ((i : Int) - 1 ≥ (i : Int)) := by omega
        have hjs : (j : Int) + 1 ≤ (s.size : Int) := by omega
        obtain ⟨t, ht⟩ : ∃ t, s.extract i (j + 1) = t := ⟨_, rfl⟩
        have hslc : ∀ V, (Instr.slice 9 (.string s) (some (.int .i64 (i : Int))) (some (.int .i64 ((j : Int) + 1))) none).run Tryz.prog V = .ok (.string t) V := fun V => by
          rw [run_slice_string V 9 s .i64 .i64 (i : Int) ((j : Int) + 1) Tryz.underlying9 (by omega) (by omega) hjs, ← ht]
          simp only [Int.toNat_natCast, show ((j : Int) + 1).toNat = j + 1 by omega]
        have HTT := Lib.hid (show t.data.toList = l by
          have h5 := stt_eq T1.out
          rw [hll] at h5
          rw [← ht, ← h5, ByteArray.data_extract, Array.toList_extract])
        clear ht hsg
        obtain ⟨o, ho⟩ : ∃ o : ByteArray, (⟨(sB x).toArray⟩ : ByteArray) = o := ⟨_, rfl⟩
        have HO := Lib.hid ho
        clear ho
        by_cases E : o = t
        · subst E
          go_wp2_with fail
          go_region_held3 (fun V' => True) (exact trivial)
            (first | (go_at_call 47; ((with_reducible refine (specPutS _ x HZ).mono ?_); rintro e w5 ⟨rfl, b5⟩; rw [HO.out]; have t5 : Below w.heap.size w w5 := (by exact beloA))))
          go_wp2_with fail
          refine bodyPost_ret (v := .tuple #[.int .i64 x, .int .i64 ((j : Int) + 1), .int .i64 0, .bool true]) (by simp [results, Tryz.results80, go_sem]) rfl ?_
          refine ⟨x, _, _, true, rfl, HZ, Lib.hid (fun _ => ⟨by omega, by omega, by omega, by omega⟩), Lib.hid (fun a2 m k1 k2 k3 k4 => ?_), Lib.hid (fun h => by simp at h), t5⟩
          have e : a2 = i := by omega
          subst e
          have h6 := (HL.out m k3 k2 k4).1
          exact ⟨rfl, HZT.out m k3 k2 k4, by omega⟩
        · have hne := bytes_ne E
          go_wp2_with fail
          go_region_held3 (fun V' => True) (exact trivial)
            (first | (go_at_call 47; ((with_reducible refine (specPutS _ x HZ).mono ?_); rintro e w5 ⟨rfl, b5⟩; rw [HO.out]; have t5 : Below w.heap.size w w5 := (by exact beloA))))
          go_wp2_with fail
          refine bodyPost_ret (v := .tuple #[.int .i64 0, .int .i64 0, .int .i64 4, .bool false]) (by simp [results, Tryz.results80, go_sem]) rfl ?_
          exact RetSg.no (fun a2 m k1 k2 k3 k4 => by
            have e : a2 = i := by omega
            subst e
            apply E
            rw [← HO.out, HZT.out m k3 k2 k4, ← HV.out m k3 k2 k4, ← HTT.out]) t5
end Go.Proofs.YtgoinmdnpaknpaaGreat
