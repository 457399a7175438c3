/- Numbers read back from their bytes: the program's walks. -/
import Derived.Test.YtenpekohbedehaaRdP
import Derived.Test.YtenpekohbedehaaKit1
set_option linter.unusedVariables false
set_option linter.unusedSimpArgs false
set_option maxRecDepth 100000
namespace Go.Proofs.Ytenpekohbedehaa
open Go.RowKit
/-- The bytes of a number: all but the last say that there is one more. -/
def Leb (l : List UInt8) : Prop := 0 < l.length ∧ l.length ≤ 10 ∧ ∀ (k : Nat) (hk : k < l.length), (l[k].toNat < 128 ↔ k + 1 = l.length)
theorem uB_leb {m : Nat} (hm : m < 18446744073709551616) : Leb (uB m) := ⟨uB_pos m, u10 hm, fun k hk => (uB_get m m (Nat.le_refl _) k hk).2⟩
/-- What the bytes say. -/
def valB : List UInt8 → Nat
  | [] => 0
  | b :: l => b.toNat % 128 + 128 * valB l
theorem valB_snoc : ∀ (l : List UInt8) (b : UInt8), valB (l ++ [b]) = valB l + b.toNat % 128 * 2 ^ (7 * l.length)
  | [], b => by simp [valB]
  | c :: l, b => by
    rw [List.cons_append]
    simp only [valB, valB_snoc l b, List.length_cons]
    rw [show 7 * (l.length + 1) = 7 + 7 * l.length by omega, Nat.pow_add, show (2 : Nat) ^ 7 = 128 from rfl, Nat.mul_add, Nat.mul_left_comm]
    omega
theorem valB_lt : ∀ (l : List UInt8), valB l < 2 ^ (7 * l.length)
  | [] => by simp [valB]
  | c :: l => by
    have := valB_lt l
    simp only [valB, List.length_cons]
    rw [show 7 * (l.length + 1) = 7 + 7 * l.length by omega, Nat.pow_add, show (2 : Nat) ^ 7 = 128 from rfl]
    omega
theorem valB_uB : ∀ (b m : Nat), m ≤ b → valB (uB m) = m
  | b, m, hb => by
    by_cases h : m < 128
    · rw [uB_small h]; simp only [valB]; rw [UInt8.toNat_ofNat']; omega
    · cases b with
      | zero => omega
      | succ b =>
        rw [uB_big h]
        simp only [valB, valB_uB b (m / 128) (by omega)]
        rw [UInt8.toNat_ofNat']; omega
theorem or_val (x c k : Nat) (hx : x < 2 ^ (7 * k)) (hk : k ≤ 9) : x ||| (c * 2 ^ (7 * k)) % 18446744073709551616 = (x + c * 2 ^ (7 * k)) % 18446744073709551616 := by
  have e : 18446744073709551616 = 2 ^ (7 * k) * 2 ^ (64 - 7 * k) := by rw [← Nat.pow_add, show 7 * k + (64 - 7 * k) = 64 by omega]
  rw [e, Nat.mul_comm c, Nat.mul_mod_mul_left, Nat.or_comm, ← Nat.two_pow_add_eq_or_of_lt hx, Nat.mod_mul, Nat.add_mul_mod_self_left, Nat.mod_eq_of_lt hx, Nat.add_mul_div_left _ _ (Nat.pow_pos (by decide)), Nat.div_eq_of_lt hx, Nat.zero_add]
  omega
def RetEnd (s : ByteArray) (at_ : Int) (w : World) (e : Ending) (w' : World) : Prop :=
  ∃ en code : Int, e = .returned (.tuple #[.int .i64 en, .int .i64 code]) ∧ 0 ≤ code ∧ Hid (code = 0 → 0 ≤ at_ ∧ at_ < en ∧ en ≤ at_ + 10 ∧ en ≤ (s.size : Int) ∧ s.size ≤ 2000) ∧ Hid (∀ (a : Nat) (l : List UInt8), at_ = (a : Int) → s.size ≤ 2000 → Stt s a l → Leb l → code = 0 ∧ en = (a : Int) + (l.length : Int)) ∧ w = w'
attribute [local irreducible] wpList
theorem implLebEnd (s : ByteArray) (at_ : Int) (w : World) (hs : s.size ≤ maxLen) (hi : I64 at_) :
    Calls Try.prog 189 #[.string s, .int .i64 at_] w (RetEnd s at_ w) := by
  unfold maxLen at hs
  by_cases hz : s.size ≤ 2000
  rotate_left
  · have hz1 : (s.size : Int) > 2000 := by omega
    go_enter Try.func189, Try.ntmps189
    go_wp2_with fail
    refine bodyPost_ret (v := .tuple #[.int .i64 0, .int .i64 1]) (by simp [results, Try.results189, go_sem]) rfl ?_
    exact ⟨0, 1, rfl, by omega, Lib.hid (by omega), Lib.hid (by omega), rfl⟩
  have hz1 : ¬ (s.size : Int) > 2000 := by omega
  cases hb : inB at_ 0 (s.size : Int)
  · have HB := Lib.hid hb
    clear hb
    go_enter Try.func189, Try.ntmps189
    go_wp2_with (go_at_call 74; ((with_reducible refine (implWithin _ _ _ _).mono ?_); rintro e w2 ⟨rfl, rfl⟩; rw [HB.out]))
    refine bodyPost_ret (v := .tuple #[.int .i64 0, .int .i64 1]) (by simp [results, Try.results189, go_sem]) rfl ?_
    refine ⟨0, 1, rfl, by omega, Lib.hid (by omega), Lib.hid (fun a l h1 _ h3 _ => ?_), rfl⟩
    have := HB.out
    rw [h1, inB_iff.2 ⟨by omega, by have := h3.1; omega⟩] at this
    exact absurd this (by simp)
  have hin := inB_iff.1 hb
  obtain ⟨a, rfl⟩ := Int.eq_ofNat_of_zero_le hin.1
  have ha : a ≤ s.size := by omega
  have HB := Lib.hid hb
  clear hb hin
  go_enter Try.func189, Try.ntmps189
  go_wp2_with (go_at_call 74; ((with_reducible refine (implWithin _ _ _ _).mono ?_); rintro e w2 ⟨rfl, rfl⟩; rw [HB.out]))
  go_loop [6] (fun iv => ∃ j : Nat, a ≤ j ∧ j ≤ a + 10 ∧ j ≤ s.size ∧ iv = .int .i64 j ∧ Hid (∀ l, Stt s a l → Leb l → j - a < l.length)) (fun iv => s.size - (intOf iv).toNat)
  case atStart => exact ⟨a, Nat.le_refl _, by omega, ha, rfl, Lib.hid (fun l _ h => by have := h.1; omega)⟩
  case round =>
    obtain ⟨j, h1, h2, h3, rfl, HT⟩ := hrel
    by_cases hlt : j < s.size
    · by_cases hl2 : j < a + 10
      · obtain ⟨v, hv⟩ : ∃ v, s[j] = v := ⟨_, rfl⟩
        have HV := Lib.hid hv
        have hi1 : (j : Int) < (s.size : Int) := by omega
        have hi2 : (j : Int) < (a : Int) + 10 := by omega
        by_cases hb : v.toNat < 128
        · have hbi : (v.toNat : Int) < 128 := by omega
          go_wp2_with fail
          refine bodyPost_ret (v := .tuple #[.int .i64 ((j : Int) + 1), .int .i64 0]) (by simp [results, Try.results189, go_sem, HV.out, hbi]) rfl ?_
          refine ⟨_, _, rfl, by omega, Lib.hid (fun _ => ⟨by omega, by omega, by omega, by omega, by omega⟩), Lib.hid (fun a2 l ha2 _ h5 h6 => ⟨rfl, ?_⟩), rfl⟩
          have : a2 = a := by omega
          subst this
          have hk := HT.out l h5 h6
          have h7 := (h6.2.2 (j - a2) hk).1 (by
            have := h5.at hk (by have := h5.len; omega)
            rw [← this]
            simp only [show a2 + (j - a2) = j by omega]
            rw [HV.out]; exact hb)
          omega
        · have hbi : ¬ (v.toNat : Int) < 128 := by omega
          go_wp2_with fail
          go_round
          case rel =>
            refine ⟨j + 1, by omega, by omega, by omega, by go_num, Lib.hid (fun l h5 h6 => ?_)⟩
            have hk := HT.out l h5 h6
            have h7 : ¬ (j - a) + 1 = l.length := fun h8 => hb (by
              have h9 := (h6.2.2 (j - a) hk).2 h8
              have := h5.at hk (by have := h5.len; omega)
              rw [← this] at h9
              simp only [show a + (j - a) = j by omega] at h9
              rw [HV.out] at h9; exact h9)
            omega
          case measure => simp [intOf]; omega
      · have hi1 : (j : Int) < (s.size : Int) := by omega
        have hi2 : ¬ (j : Int) < (a : Int) + 10 := by omega
        have hi3 : (a : Int) + 10 ≤ (s.size : Int) := by omega
        go_wp2_with fail
        refine bodyPost_ret (v := .tuple #[.int .i64 0, .int .i64 3]) (by simp [results, Try.results189, go_sem]) rfl ?_
        exact ⟨0, 3, rfl, by omega, Lib.hid (by omega), Lib.hid (fun a2 l ha2 _ h5 h6 => by
          have e : a2 = a := by omega
          subst e
          have := HT.out l h5 h6
          have := h6.2.1
          omega), rfl⟩
    · have hi1 : ¬ (j : Int) < (s.size : Int) := by omega
      have HN : ∀ l, Stt s a l → Leb l → False := fun l h5 h6 => by
        have := HT.out l h5 h6
        have := h5.len
        omega
      have HN := Lib.hid HN
      by_cases hi3 : (a : Int) + 10 ≤ (s.size : Int)
      · go_wp2_with fail
        refine bodyPost_ret (v := .tuple #[.int .i64 0, .int .i64 3]) (by simp [results, Try.results189, go_sem]) rfl ?_
        exact ⟨0, 3, rfl, by omega, Lib.hid (by omega), Lib.hid (fun a2 l ha2 _ h5 h6 => by
          have e : a2 = a := by omega
          subst e
          exact (HN.out l h5 h6).elim), rfl⟩
      · go_wp2_with fail
        refine bodyPost_ret (v := .tuple #[.int .i64 0, .int .i64 2]) (by simp [results, Try.results189, go_sem]) rfl ?_
        exact ⟨0, 2, rfl, by omega, Lib.hid (by omega), Lib.hid (fun a2 l ha2 _ h5 h6 => by
          have e : a2 = a := by omega
          subst e
          exact (HN.out l h5 h6).elim), rfl⟩
theorem or_u64 (x y : Nat) (hx : x < 18446744073709551616) (hy : y < 18446744073709551616) : bits .or .u64 (x : Int) (y : Int) = ((x ||| y : Nat) : Int) := bits_or_u64_nat x y hx hy
theorem and127b (c : UInt8) : bits .and .u8 (c.toNat : Int) 127 = ((c.toNat % 128 : Nat) : Int) := by
  have h := and127i (c.toNat : Int)
  have h1 := c.toNat_lt
  have e1 : ((c.toNat : Int) % 256) = (c.toNat : Int) := by omega
  rw [e1] at h
  rw [h]; omega
theorem val_step {x : Nat} {l : List UInt8} {k : Nat} (hk : k ≤ 9) (hl : k < l.length) (hx : x = valB (l.take k) % 18446744073709551616) :
    bits .or .u64 (x : Int) (IntKind.u64.wrap (IntKind.u64.wrap (bits .and .u8 (l[k].toNat : Int) 127) * 2 ^ (7 * k))) = ((valB (l.take (k + 1)) % 18446744073709551616 : Nat) : Int) := by
  have h1 : valB (l.take k) < 2 ^ (7 * k) := by
    have := valB_lt (l.take k)
    rwa [List.length_take_of_le (by omega)] at this
  have h2 : (2 : Nat) ^ (7 * k) ≤ 2 ^ 63 := Nat.pow_le_pow_right (by decide) (by omega)
  have h3 : (2 : Nat) ^ 63 = 9223372036854775808 := rfl
  have h4 : x = valB (l.take k) := by rw [hx]; omega
  obtain ⟨c, hc⟩ : ∃ c, l[k].toNat % 128 = c := ⟨_, rfl⟩
  have e0 : (c : Int) % 18446744073709551616 = (c : Int) := by omega
  rw [and127b, hc, IntKind.wrap_u64, IntKind.wrap_u64, e0]
  have e1 : ((c : Int) * 2 ^ (7 * k)) % 18446744073709551616 = ((c * 2 ^ (7 * k) % 18446744073709551616 : Nat) : Int) := by
    rw [Int.natCast_emod, Int.natCast_mul, Int.natCast_pow]; rfl
  rw [e1, or_u64 _ _ (by omega) (Nat.mod_lt _ (by decide)), h4, or_val _ _ _ h1 hk, List.take_succ_eq_append_getElem hl, valB_snoc, List.length_take_of_le (by omega), hc]
theorem implLebBits (s : ByteArray) (a : Nat) (l : List UInt8) (w : World) (hs : s.size ≤ maxLen) (h : Stt s a l) (hl : l.length ≤ 10) :
    Calls Try.prog 190 #[.string s, .int .i64 a, .int .i64 ((a + l.length : Nat) : Int)] w fun e w' => e = .returned (.int .u64 ((valB l % 18446744073709551616 : Nat) : Int)) ∧ w = w' := by
  unfold maxLen at hs
  have hen := h.len
  have HS := Lib.hid h
  obtain ⟨L, hL⟩ : ∃ L, l.length = L := ⟨_, rfl⟩
  have HL := Lib.hid hL
  rw [hL] at hl hen ⊢
  obtain ⟨en, hE⟩ : ∃ en, a + L = en := ⟨_, rfl⟩
  rw [hE]
  clear h hL
  go_enter Try.func190, Try.ntmps190
  go_wp2_with fail
  go_loop [7, 8] (fun nv iv => ∃ j x : Nat, a ≤ j ∧ j ≤ en ∧ iv = .int .i64 j ∧ nv = .int .u64 x ∧ Hid (x = valB (l.take (j - a)) % 18446744073709551616)) (fun _ iv => en - (intOf iv).toNat)
  case atStart => exact ⟨a, 0, Nat.le_refl _, by omega, rfl, rfl, Lib.hid (by simp [valB])⟩
  case round =>
    obtain ⟨j, x, h1, h2, rfl, rfl, HX⟩ := hrel
    by_cases hlt : j < en
    · obtain ⟨k, rfl⟩ : ∃ k, j = a + k := ⟨j - a, by omega⟩
      have hk9 : k ≤ 9 := by omega
      have hkl : k < l.length := by have := HL.out; omega
      have hjs : a + k < s.size := by omega
      have hat := HS.out.at hkl hjs
      have hv := val_step (x := x) (l := l) (k := k) hk9 hkl (by rw [HX.out, show a + k - a = k by omega])
      go_wp2_with fail
      go_round
      case rel => exact ⟨a + k + 1, valB (l.take (k + 1)) % 18446744073709551616, by omega, by omega, by go_num, congrArg (Value.int .u64) (by first | omega | (rw [hv]; done)), Lib.hid (by rw [show a + k + 1 - a = k + 1 by omega])⟩
      case measure => simp [intOf]; omega
    · have hjn : j = en := by omega
      go_wp2_with fail
      go_ret
      exact ⟨ret_int (by have := HX.out; rw [List.take_of_length_le (by have := HL.out; omega)] at this; omega), rfl⟩
theorem stt_take {s : ByteArray} {a k : Nat} (h : a + k ≤ s.size) : Stt s a ((s.data.toList.drop a).take k) ∧ ((s.data.toList.drop a).take k).length = k := by
  refine ⟨⟨by omega, _, (List.take_append_drop k _).symm⟩, ?_⟩
  have h4 : s.data.size = s.size := rfl
  rw [List.length_take, List.length_drop, Array.length_toList]
  omega
theorem stt_eq {s : ByteArray} {a : Nat} {l : List UInt8} (h : Stt s a l) : (s.data.toList.drop a).take l.length = l := by
  obtain ⟨_, r, h2⟩ := h
  rw [h2, List.take_left]
/-- A number is read, or none; where the bytes of a number stand it is that one. -/
def RetU (s : ByteArray) (at_ : Int) (w : World) (e : Ending) (w' : World) : Prop :=
  ∃ (n : Nat) (en code : Int) (ok : Bool), e = .returned (.tuple #[.int .u64 n, .int .i64 en, .int .i64 code, .bool ok]) ∧ n < 18446744073709551616 ∧ Hid (ok = true → 0 ≤ at_ ∧ at_ < en ∧ en ≤ (s.size : Int) ∧ s.size ≤ 2000) ∧ Hid (∀ (a m : Nat), at_ = (a : Int) → s.size ≤ 2000 → m < 18446744073709551616 → Stt s a (uB m) → ok = true ∧ n = m ∧ en = (a : Int) + ((uB m).length : Int)) ∧ Hid (ok = false → en = 0) ∧ Below w.heap.size w w'
theorem RetU.no {s : ByteArray} {at_ code : Int} {w w' : World} (h : ∀ (a m : Nat), at_ = (a : Int) → s.size ≤ 2000 → m < 18446744073709551616 → Stt s a (uB m) → False) (hb : Below w.heap.size w w') : RetU s at_ w (.returned (.tuple #[.int .u64 (0 : Int), .int .i64 (0 : Int), .int .i64 code, .bool false])) w' :=
  ⟨0, 0, code, false, rfl, by omega, Lib.hid (fun h => by simp at h), Lib.hid (fun a m h1 h2 h3 h4 => (h a m h1 h2 h3 h4).elim), Lib.hid (fun _ => rfl), hb⟩
set_option maxHeartbeats 1000000 in
theorem implReadU (s : ByteArray) (at_ : Int) (w : World) (hs : s.size ≤ maxLen) (hi : I64 at_) :
    Calls Try.prog 143 #[.string s, .int .i64 at_] w (RetU s at_ w) := by
  have hs0 := hs
  unfold maxLen at hs
  go_enter Try.func143, Try.ntmps143
  go_wp2_with fail
  refine (implLebEnd s at_ w hs0 hi).mono ?_
  rintro e w1 ⟨en, code, rfl, hc0, HA, HT, rfl⟩
  by_cases hc : code = 0
  rotate_left
  · go_wp2_with fail
    refine bodyPost_ret (v := .tuple #[.int .u64 0, .int .i64 0, .int .i64 code, .bool false]) (by simp [results, Try.results143, go_sem]) rfl ?_
    exact RetU.no (fun a m h1 h2 h3 h4 => hc (HT.out a _ h1 h2 h4 (uB_leb h3)).1) (Below.refl _ _)
  subst hc
  obtain ⟨g1, g2, g3, g4, g5⟩ := HA.out rfl
  obtain ⟨a, rfl⟩ := Int.eq_ofNat_of_zero_le g1
  obtain ⟨j, rfl⟩ : ∃ j : Nat, en = (j : Int) + 1 := ⟨(en - 1).toNat, by omega⟩
  have hj : j < s.size := by omega
  obtain ⟨q, hq⟩ : ∃ q, (s[j]).toNat = q := ⟨_, rfl⟩
  have HL := Lib.hid (show ∀ m, m < 18446744073709551616 → s.size ≤ 2000 → Stt s a (uB m) → j + 1 = a + (uB m).length ∧ (1 < (uB m).length → 0 < q) ∧ ((uB m).length = 10 → q ≤ 1) from fun m h3 h2 h4 => by
    have h5 := (HT.out a _ rfl h2 h4 (uB_leb h3)).2
    have hp := uB_pos m
    have h6 : j + 1 = a + (uB m).length := by omega
    have h7 := uB_last (m := m) (k := j - a) h3 (by omega)
    have h8 := h4.at (k := j - a) (by omega) (by omega)
    simp only [show a + (j - a) = j by omega] at h8
    rw [← h8, hq] at h7
    exact ⟨h6, fun h => h7.2.1 (by omega), fun h => h7.2.2 (by omega)⟩)
  by_cases hL : (j : Int) + 1 - (a : Int) = 10 ∧ 1 < q
  · have hq1 : (q : Int) > 1 := by omega
    have hq2 := hL.1
    have hq3 : (1 : Int) < (q : Int) := by omega
    go_wp2_with fail
    refine bodyPost_ret (v := .tuple #[.int .u64 0, .int .i64 0, .int .i64 3, .bool false]) (by simp [results, Try.results143, go_sem]) rfl ?_
    exact RetU.no (fun a2 m h1 h2 h3 h4 => by
      have e : a2 = a := by omega
      subst e
      have := HL.out m h3 h2 h4
      omega) (Below.refl _ _)
  by_cases hM : (j : Int) + 1 - (a : Int) > 1 ∧ q = 0
  · obtain ⟨hM1, hM2⟩ := hM
    subst hM2
    have hL1 : ¬ (0 : Int) > 1 := by omega
    by_cases hM3 : (j : Int) + 1 - (a : Int) = 10
    all_goals
      go_wp2_with fail
      refine bodyPost_ret (v := .tuple #[.int .u64 0, .int .i64 0, .int .i64 4, .bool false]) (by simp [results, Try.results143, go_sem]) rfl ?_
      exact RetU.no (fun a2 m h1 h2 h3 h4 => by
        have e : a2 = a := by omega
        subst e
        have := HL.out m h3 h2 h4
        omega) (Below.refl _ _)
  obtain ⟨t1, t2⟩ := stt_take (s := s) (a := a) (k := j + 1 - a) (by omega)
  obtain ⟨l, hl⟩ : ∃ l, (s.data.toList.drop a).take (j + 1 - a) = l := ⟨_, rfl⟩
  rw [hl] at t1 t2
  have T1 := Lib.hid t1
  have HV := Lib.hid (show ∀ m, m < 18446744073709551616 → s.size ≤ 2000 → Stt s a (uB m) → valB l = m from fun m h3 h2 h4 => by
    have h5 := (HL.out m h3 h2 h4).1
    have h6 := stt_eq h4
    rw [show (uB m).length = j + 1 - a by omega, hl] at h6
    rw [h6]
    exact valB_uB m m (Nat.le_refl _))
  have hlb := implLebBits s a l w hs0 t1 (by omega)
  rw [t2, show a + (j + 1 - a) = j + 1 by omega, show ((j + 1 : Nat) : Int) = (j : Int) + 1 by omega] at hlb
  have HB := Lib.hid hlb
  obtain ⟨n, hn⟩ : ∃ n, valB l % 18446744073709551616 = n := ⟨_, rfl⟩
  have HN := Lib.hid hn
  rw [hn] at HB
  clear hlb t1 t2 hl hn
  by_cases hL1 : (j : Int) + 1 - (a : Int) = 10
  · have hL2 : ¬ (q : Int) > 1 := by omega
    have hL3 : ¬ (1 : Int) < (q : Int) := by omega
    have hM2 : ¬ q = 0 := by omega
    go_wp2_with fail
    refine HB.out.mono ?_
    rintro e w2 ⟨rfl, rfl⟩
    go_wp2_with fail
    refine bodyPost_ret (v := .tuple #[.int .u64 n, .int .i64 ((j : Int) + 1), .int .i64 0, .bool true]) (by simp [results, Try.results143, go_sem]) rfl ?_
    refine ⟨n, _, _, true, rfl, by have := HN.out; omega, Lib.hid (fun _ => ⟨by omega, by omega, by omega, by omega⟩), Lib.hid (fun a2 m h1 h2 h3 h4 => ?_), Lib.hid (fun h => by simp at h), Below.refl _ _⟩
    have e : a2 = a := by omega
    subst e
    have h5 := HV.out m h3 h2 h4
    have h6 := (HL.out m h3 h2 h4).1
    have h7 := HN.out
    rw [h5] at h7
    exact ⟨rfl, by omega, by omega⟩
  by_cases hM3 : (j : Int) + 1 - (a : Int) > 1
  · have hM2 : ¬ q = 0 := by omega
    go_wp2_with fail
    refine HB.out.mono ?_
    rintro e w2 ⟨rfl, rfl⟩
    go_wp2_with fail
    refine bodyPost_ret (v := .tuple #[.int .u64 n, .int .i64 ((j : Int) + 1), .int .i64 0, .bool true]) (by simp [results, Try.results143, go_sem]) rfl ?_
    refine ⟨n, _, _, true, rfl, by have := HN.out; omega, Lib.hid (fun _ => ⟨by omega, by omega, by omega, by omega⟩), Lib.hid (fun a2 m h1 h2 h3 h4 => ?_), Lib.hid (fun h => by simp at h), Below.refl _ _⟩
    have e : a2 = a := by omega
    subst e
    have h5 := HV.out m h3 h2 h4
    have h6 := (HL.out m h3 h2 h4).1
    have h7 := HN.out
    rw [h5] at h7
    exact ⟨rfl, by omega, by omega⟩
  · skip
    go_wp2_with fail
    refine HB.out.mono ?_
    rintro e w2 ⟨rfl, rfl⟩
    go_wp2_with fail
    refine bodyPost_ret (v := .tuple #[.int .u64 n, .int .i64 ((j : Int) + 1), .int .i64 0, .bool true]) (by simp [results, Try.results143, go_sem]) rfl ?_
    refine ⟨n, _, _, true, rfl, by have := HN.out; omega, Lib.hid (fun _ => ⟨by omega, by omega, by omega, by omega⟩), Lib.hid (fun a2 m h1 h2 h3 h4 => ?_), Lib.hid (fun h => by simp at h), Below.refl _ _⟩
    have e : a2 = a := by omega
    subst e
    have h5 := HV.out m h3 h2 h4
    have h6 := (HL.out m h3 h2 h4).1
    have h7 := HN.out
    rw [h5] at h7
    exact ⟨rfl, by omega, by omega⟩
end Go.Proofs.Ytenpekohbedehaa
