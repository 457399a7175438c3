/- Numbers with a sign read back: the program's walk. -/
import Derived.Test.YtenpekohbedehaaRdT
import Derived.Test.YtenpekohbedehaaRdS
set_option linter.unusedVariables false
set_option linter.unusedSimpArgs false
set_option maxRecDepth 100000
namespace Go.Proofs.Ytenpekohbedehaa
open Go.RowKit
theorem sB_last10 {n : Int} (hn : I64 n) {k : Nat} (hk : k < (sB n).length) (hL : (sB n).length = 10) (h9 : k = 9) : (sB n)[k].toNat = 0 ∨ (sB n)[k].toNat = 127 := by
  subst h9
  obtain ⟨h1, h2, h3, h4⟩ := sB_facts _ n (Nat.le_refl _)
  have h5 := (h1 9 hk).2 (by omega)
  have h6 : sB n = (sB n).take 9 ++ [(sB n)[9]] := by
    rw [← List.take_succ_eq_append_getElem hk, List.take_of_length_le (by omega)]
  have h7 := congrArg valB h6
  rw [valB_snoc, List.length_take_of_le (by omega)] at h7
  have h8 := valB_lt ((sB n).take 9)
  rw [List.length_take_of_le (by omega)] at h8
  rw [hL] at h2
  simp only [Nat.reduceMul, Nat.reducePow, Int.reducePow] at h2 h7 h8
  unfold I64 at hn
  omega
/-- Shifted up and down again a number of few bits has its sign. -/
theorem sar {n : Int} {L v : Nat} (h0 : 0 < L) (hL : L < 10) (hv : (v : Int) = n % 2 ^ (7 * L)) (h1 : -(2 ^ (7 * L - 1) : Int) ≤ n) (h2 : n < 2 ^ (7 * L - 1)) : wrap64 ((v : Int) * 2 ^ (64 - 7 * L)) / 2 ^ (64 - 7 * L) = n := by
  have hc : L = 1 ∨ L = 2 ∨ L = 3 ∨ L = 4 ∨ L = 5 ∨ L = 6 ∨ L = 7 ∨ L = 8 ∨ L = 9 := by omega
  unfold wrap64
  rcases hc with rfl | rfl | rfl | rfl | rfl | rfl | rfl | rfl | rfl
  all_goals
    simp only [Nat.reduceMul, Nat.reduceSub, Int.reducePow] at hv h1 h2 ⊢
    omega
theorem i64_sar {x : Int} (h : I64 x) (k : Nat) : I64 (x / 2 ^ k) := by
  unfold I64 at h ⊢
  have hp : (0 : Int) < 2 ^ k := Int.pow_pos (by decide)
  have hp1 : (1 : Int) ≤ 2 ^ k := by omega
  by_cases hx : 0 ≤ x
  · have h1 := Int.ediv_nonneg hx (show (0 : Int) ≤ 2 ^ k by omega)
    have h2 := Int.ediv_le_self (2 ^ k) hx
    omega
  · have h1 : -(9223372036854775808 : Int) ≤ x / 2 ^ k := by
      rw [Int.le_ediv_iff_mul_le hp]
      generalize (2 : Int) ^ k = y at hp1 ⊢
      omega
    have h2 : x / 2 ^ k < 0 := Int.ediv_neg_of_neg_of_pos (by omega) hp
    omega
/-- A number with a sign is read, or none; where the bytes of one stand it is that one. -/
def RetSg (s : ByteArray) (at_ : Int) (w : World) (e : Ending) (w' : World) : Prop :=
  ∃ (n en code : Int) (ok : Bool), e = .returned (.tuple #[.int .i64 n, .int .i64 en, .int .i64 code, .bool ok]) ∧ I64 n ∧ Hid (ok = true → 0 ≤ at_ ∧ at_ < en ∧ en ≤ (s.size : Int) ∧ s.size ≤ 2000) ∧ Hid (∀ (a : Nat) (m : Int), at_ = (a : Int) → s.size ≤ 2000 → I64 m → Stt s a (sB m) → ok = true ∧ n = m ∧ en = (a : Int) + ((sB m).length : Int)) ∧ Hid (ok = false → en = 0) ∧ Below w.heap.size w w'
theorem RetSg.no {s : ByteArray} {at_ code : Int} {w w' : World} (h : ∀ (a : Nat) (m : Int), at_ = (a : Int) → s.size ≤ 2000 → I64 m → Stt s a (sB m) → False) (hb : Below w.heap.size w w') : RetSg s at_ w (.returned (.tuple #[.int .i64 (0 : Int), .int .i64 (0 : Int), .int .i64 code, .bool false])) w' :=
  ⟨0, 0, code, false, rfl, by unfold I64; omega, Lib.hid (fun h => by simp at h), Lib.hid (fun a m h1 h2 h3 h4 => (h a m h1 h2 h3 h4).elim), Lib.hid (fun _ => rfl), hb⟩
attribute [local irreducible] wpList
theorem i64_wrap (x : Int) : I64 (wrap64 x) := by unfold I64 wrap64; omega
set_option maxHeartbeats 1000000 in
theorem implReadS (s : ByteArray) (at_ : Int) (w : World) (hs : s.size ≤ maxLen) (hi : I64 at_) :
    Calls Try.prog 144 #[.string s, .int .i64 at_] w (RetSg s at_ w) := by
  have hs0 := hs
  unfold maxLen at hs
  go_enter Try.func144, Try.ntmps144
  go_wp2_with fail
  refine (implLebEnd s at_ w hs0 hi).mono ?_
  rintro e w1 ⟨en, code, rfl, hc0, HA, HT, rfl⟩
  by_cases hc : code = 0
  rotate_left
  · go_wp2_with fail
    refine bodyPost_ret (v := .tuple #[.int .i64 0, .int .i64 0, .int .i64 code, .bool false]) (by simp [results, Try.results144, go_sem]) rfl ?_
    exact RetSg.no (fun a m h1 h2 h3 h4 => hc (HT.out a _ h1 h2 h4 (sB_leb h3)).1) (Below.refl _ _)
  subst hc
  obtain ⟨g1, g2, g3, g4, g5⟩ := HA.out rfl
  obtain ⟨a, rfl⟩ := Int.eq_ofNat_of_zero_le g1
  obtain ⟨j, rfl⟩ : ∃ j : Nat, en = (j : Int) + 1 := ⟨(en - 1).toNat, by omega⟩
  have hj : j < s.size := by omega
  obtain ⟨q, hq⟩ : ∃ q, (s[j]).toNat = q := ⟨_, rfl⟩
  have HL := Lib.hid (show ∀ m, I64 m → s.size ≤ 2000 → Stt s a (sB m) → j + 1 = a + (sB m).length ∧ ((sB m).length = 10 → q = 0 ∨ q = 127) from fun m h3 h2 h4 => by
    have h5 := (HT.out a _ rfl h2 h4 (sB_leb h3)).2
    have hp := sB_pos m
    have h6 : j + 1 = a + (sB m).length := by omega
    have h8 := h4.at (k := j - a) (by omega) (by omega)
    simp only [show a + (j - a) = j by omega] at h8
    refine ⟨h6, fun h => ?_⟩
    have h9 := sB_last10 h3 (k := j - a) (by omega) h (by omega)
    rw [← h8, hq] at h9
    exact h9)
  by_cases hL : (j : Int) + 1 - (a : Int) = 10 ∧ q ≠ 0 ∧ q ≠ 127
  · obtain ⟨hL1, hL2, hL3⟩ := hL
    have hL4 : ¬ (q : Int) = 0 := by omega
    have hL5 : ¬ (q : Int) = 127 := by omega
    have hL6 : ((q : Int) != 0) = true := bne_iff_ne.2 hL4
    have hL7 : ((q : Int) != 127) = true := bne_iff_ne.2 hL5
    go_wp2_with fail
    refine bodyPost_ret (v := .tuple #[.int .i64 0, .int .i64 0, .int .i64 3, .bool false]) (by simp [results, Try.results144, go_sem]) rfl ?_
    exact RetSg.no (fun a2 m h1 h2 h3 h4 => by
      have e : a2 = a := by omega
      subst e
      have := HL.out m h3 h2 h4
      omega) (Below.refl _ _)
  obtain ⟨t1, t2⟩ := stt_take (s := s) (a := a) (k := j + 1 - a) (by omega)
  obtain ⟨l, hl⟩ : ∃ l, (s.data.toList.drop a).take (j + 1 - a) = l := ⟨_, rfl⟩
  rw [hl] at t1 t2
  have T1 := Lib.hid t1
  have T2 := Lib.hid t2
  have HV := Lib.hid (show ∀ m, I64 m → s.size ≤ 2000 → Stt s a (sB m) → l = sB m from fun m h3 h2 h4 => by
    have h5 := (HL.out m h3 h2 h4).1
    have h6 := stt_eq h4
    rw [show (sB m).length = j + 1 - a by omega, hl] at h6
    exact h6)
  have hlb := implLebBits s a l w hs0 t1 (by omega)
  rw [t2, show a + (j + 1 - a) = j + 1 by omega, show ((j + 1 : Nat) : Int) = (j : Int) + 1 by omega] at hlb
  have HB := Lib.hid hlb
  obtain ⟨n, hn⟩ : ∃ n, valB l % 18446744073709551616 = n := ⟨_, rfl⟩
  have HN := Lib.hid hn
  rw [hn] at HB
  clear hlb t1 t2 hl hn
  have hn64 : n < 18446744073709551616 := by have := HN.out; omega
  by_cases hL10 : (j : Int) + 1 - (a : Int) = 10
  · have hq0 : q = 0 ∨ q = 127 := by omega
    have hlt10 : ¬ (j : Int) + 1 - (a : Int) < 10 := by omega
    rcases hq0 with rfl | rfl
    all_goals
      go_wp2_with fail
      refine HB.out.mono ?_
      rintro e w2 ⟨rfl, rfl⟩
      go_wp2_with fail
      obtain ⟨z, hz⟩ : ∃ z, wrap64 (n : Int) = z := ⟨_, rfl⟩
      have HZ : I64 z := by rw [← hz]; exact i64_wrap _
      have HZT := Lib.hid (show ∀ m, I64 m → s.size ≤ 2000 → Stt s a (sB m) → z = m from fun m h3 h2 h4 => by
        have h5 := HV.out m h3 h2 h4
        have h6 := (HL.out m h3 h2 h4).1
        have h7 := HN.out
        rw [h5] at h7
        obtain ⟨_, f2, f3, f4⟩ := sB_facts _ m (Nat.le_refl _)
        rw [← hz]
        have hLL : (sB m).length = 10 := by omega
        rw [hLL] at f2
        simp only [Nat.reduceMul, Int.reducePow] at f2
        unfold I64 at h3
        unfold wrap64
        omega)
      rw [hz]
      clear hz
      have hll : l.length = j + 1 - a := T2.out
      have hjs : (j : Int) + 1 ≤ (s.size : Int) := by omega
      obtain ⟨t, ht⟩ : ∃ t, s.extract a (j + 1) = t := ⟨_, rfl⟩
      have hslc : ∀ V, (Instr.slice 9 (.string s) (some (.int .i64 (a : Int))) (some (.int .i64 ((j : Int) + 1))) none).run Try.prog V = .ok (.string t) V := fun V => by
        rw [run_slice_string V 9 s .i64 .i64 (a : Int) ((j : Int) + 1) Try.underlying9 (by omega) (by omega) hjs, ← ht]
        simp only [Int.toNat_natCast, show ((j : Int) + 1).toNat = j + 1 by omega]
      have HTT := Lib.hid (show t.data.toList = l by
        have h5 := stt_eq T1.out
        rw [hll] at h5
        rw [← ht, ← h5, ByteArray.data_extract, Array.toList_extract])
      clear ht
      obtain ⟨o, ho⟩ : ∃ o : ByteArray, (⟨(sB z).toArray⟩ : ByteArray) = o := ⟨_, rfl⟩
      have HO := Lib.hid ho
      clear ho
      by_cases E : o = t
      · subst E
        go_region_held3 (fun V' => True) (exact trivial)
          (first | (go_at_call 150; ((with_reducible refine (implPutS _ z HZ).mono ?_); rintro e w5 ⟨rfl, b5⟩; rw [HO.out]; have t5 : Below w.heap.size w w5 := (by exact beloA))))
        go_wp2_with fail
        refine bodyPost_ret (v := .tuple #[.int .i64 z, .int .i64 ((j : Int) + 1), .int .i64 0, .bool true]) (by simp [results, Try.results144, go_sem]) rfl ?_
        refine ⟨z, _, _, true, rfl, HZ, Lib.hid (fun _ => ⟨by omega, by omega, by omega, by omega⟩), Lib.hid (fun a2 m k1 k2 k3 k4 => ?_), Lib.hid (fun h => by simp at h), t5⟩
        have e : a2 = a := by omega
        subst e
        have h6 := (HL.out m k3 k2 k4).1
        exact ⟨rfl, HZT.out m k3 k2 k4, by omega⟩
      · have hne := bytes_ne E
        go_region_held3 (fun V' => True) (exact trivial)
          (first | (go_at_call 150; ((with_reducible refine (implPutS _ z HZ).mono ?_); rintro e w5 ⟨rfl, b5⟩; rw [HO.out]; have t5 : Below w.heap.size w w5 := (by exact beloA))))
        go_wp2_with fail
        refine bodyPost_ret (v := .tuple #[.int .i64 0, .int .i64 0, .int .i64 4, .bool false]) (by simp [results, Try.results144, go_sem]) rfl ?_
        exact RetSg.no (fun a2 m k1 k2 k3 k4 => by
          have e : a2 = a := by omega
          subst e
          apply E
          rw [← HO.out, HZT.out m k3 k2 k4, ← HV.out m k3 k2 k4, ← HTT.out]) t5
  · have hlt10 : (j : Int) + 1 - (a : Int) < 10 := by omega
    go_wp2_with fail
    refine HB.out.mono ?_
    rintro e w2 ⟨rfl, rfl⟩
    obtain ⟨B, hB⟩ : ∃ B : Nat, 64 - 7 * ((j : Int) + 1 - (a : Int)) = (B : Int) := ⟨(64 - 7 * ((j : Int) + 1 - (a : Int))).toNat, by omega⟩
    have hB2 : B ≤ 64 := by omega
    have hB3 : min B 64 = B := by omega
    go_wp2_with fail
    obtain ⟨z, hz⟩ : ∃ z, wrap64 (wrap64 (n : Int) * 2 ^ B) / 2 ^ B = z := ⟨_, rfl⟩
    have HZ : I64 z := by rw [← hz]; exact i64_sar (i64_wrap _) _
    have HZT := Lib.hid (show ∀ m, I64 m → s.size ≤ 2000 → Stt s a (sB m) → z = m from fun m h3 h2 h4 => by
      have h5 := HV.out m h3 h2 h4
      have h6 := (HL.out m h3 h2 h4).1
      have h7 := HN.out
      rw [h5] at h7
      obtain ⟨_, f2, f3, f4⟩ := sB_facts _ m (Nat.le_refl _)
      rw [← hz]
      have hBL : B = 64 - 7 * (sB m).length := by omega
      have h8 := valB_lt (sB m)
      have h9 : 2 ^ (7 * (sB m).length) ≤ 2 ^ 63 := Nat.pow_le_pow_right (n := 2) (by decide) (by omega)
      have h10 : (2 : Nat) ^ 63 = 9223372036854775808 := rfl
      have h11 : n = valB (sB m) := by omega
      rw [wrap_small (n := (n : Int)) (by omega) (by omega), h11, hBL]
      exact sar (sB_pos m) (by omega) f2 f3 f4)
    rw [hz]
    clear hz
    have hll : l.length = j + 1 - a := T2.out
    have hjs : (j : Int) + 1 ≤ (s.size : Int) := by omega
    obtain ⟨t, ht⟩ : ∃ t, s.extract a (j + 1) = t := ⟨_, rfl⟩
    have hslc : ∀ V, (Instr.slice 9 (.string s) (some (.int .i64 (a : Int))) (some (.int .i64 ((j : Int) + 1))) none).run Try.prog V = .ok (.string t) V := fun V => by
      rw [run_slice_string V 9 s .i64 .i64 (a : Int) ((j : Int) + 1) Try.underlying9 (by omega) (by omega) hjs, ← ht]
      simp only [Int.toNat_natCast, show ((j : Int) + 1).toNat = j + 1 by omega]
    have HTT := Lib.hid (show t.data.toList = l by
      have h5 := stt_eq T1.out
      rw [hll] at h5
      rw [← ht, ← h5, ByteArray.data_extract, Array.toList_extract])
    clear ht
    obtain ⟨o, ho⟩ : ∃ o : ByteArray, (⟨(sB z).toArray⟩ : ByteArray) = o := ⟨_, rfl⟩
    have HO := Lib.hid ho
    clear ho
    by_cases E : o = t
    · subst E
      go_region_held3 (fun V' => True) (exact trivial)
        (first | (go_at_call 150; ((with_reducible refine (implPutS _ z HZ).mono ?_); rintro e w5 ⟨rfl, b5⟩; rw [HO.out]; have t5 : Below w.heap.size w w5 := (by exact beloA))))
      go_wp2_with fail
      refine bodyPost_ret (v := .tuple #[.int .i64 z, .int .i64 ((j : Int) + 1), .int .i64 0, .bool true]) (by simp [results, Try.results144, go_sem]) rfl ?_
      refine ⟨z, _, _, true, rfl, HZ, Lib.hid (fun _ => ⟨by omega, by omega, by omega, by omega⟩), Lib.hid (fun a2 m k1 k2 k3 k4 => ?_), Lib.hid (fun h => by simp at h), t5⟩
      have e : a2 = a := by omega
      subst e
      have h6 := (HL.out m k3 k2 k4).1
      exact ⟨rfl, HZT.out m k3 k2 k4, by omega⟩
    · have hne := bytes_ne E
      go_region_held3 (fun V' => True) (exact trivial)
        (first | (go_at_call 150; ((with_reducible refine (implPutS _ z HZ).mono ?_); rintro e w5 ⟨rfl, b5⟩; rw [HO.out]; have t5 : Below w.heap.size w w5 := (by exact beloA))))
      go_wp2_with fail
      refine bodyPost_ret (v := .tuple #[.int .i64 0, .int .i64 0, .int .i64 4, .bool false]) (by simp [results, Try.results144, go_sem]) rfl ?_
      exact RetSg.no (fun a2 m k1 k2 k3 k4 => by
        have e : a2 = a := by omega
        subst e
        apply E
        rw [← HO.out, HZT.out m k3 k2 k4, ← HV.out m k3 k2 k4, ← HTT.out]) t5
end Go.Proofs.Ytenpekohbedehaa
