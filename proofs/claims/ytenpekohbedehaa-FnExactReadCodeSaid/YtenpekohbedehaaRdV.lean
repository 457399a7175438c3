/- Numbers with a sign read back: the reference's walk. -/
import Derived.Test.YtenpekohbedehaaRdU
set_option linter.unusedVariables false
set_option linter.unusedSimpArgs false
set_option maxRecDepth 100000
namespace Go.Proofs.Ytenpekohbedehaa
open Go.RowKit
attribute [local irreducible] wpList
theorem val_ds {x sg : Int} {l : List UInt8} {d t : Nat} (hd : d < l.length) (hx : x = wrap64 (sg * 2 ^ (7 * t) + (valB (l.drop (d + 1)) : Int))) :
    wrap64 (wrap64 (x * 128) + wrap64 (bits .and .u8 (l[d].toNat : Int) 127)) = wrap64 (sg * 2 ^ (7 * (t + 1)) + (valB (l.drop d) : Int)) := by
  have e : sg * (2 : Int) ^ (7 * (t + 1)) = 128 * (sg * 2 ^ (7 * t)) := by rw [show 7 * (t + 1) = 7 + 7 * t by omega, Int.pow_add, show (2 : Int) ^ 7 = 128 from rfl, Int.mul_left_comm]
  rw [and127b, valB_drop hd, e]
  generalize sg * (2 : Int) ^ (7 * t) = y at hx ⊢
  unfold wrap64 at hx ⊢
  omega
theorem ds_0 : (0 : Int) = wrap64 (0 * 2 ^ (7 * 0) + ((valB [] : Nat) : Int)) := by simp only [valB, Nat.mul_zero, Int.pow_zero]; unfold wrap64; omega
theorem ds_1 : (-1 : Int) = wrap64 (-1 * 2 ^ (7 * 0) + ((valB [] : Nat) : Int)) := by simp only [valB, Nat.mul_zero, Int.pow_zero]; unfold wrap64; omega
/-- The sign from the last byte. -/
theorem sB_sign {m : Int} (hm : I64 m) {q k : Nat} (hk : k + 1 = (sB m).length) (hq : (sB m)[k].toNat = q) : (if 64 ≤ q then (-1 : Int) else 0) * 2 ^ (7 * (sB m).length) + (valB (sB m) : Int) = m := by
  obtain ⟨h1, h2, h3, h4⟩ := sB_facts _ m (Nat.le_refl _)
  have h5 := (h1 k (by omega)).2 hk
  have h6 : sB m = (sB m).take k ++ [(sB m)[k]] := by
    rw [← List.take_succ_eq_append_getElem (by omega), List.take_of_length_le (by omega)]
  have h7 := congrArg valB h6
  rw [valB_snoc, List.length_take_of_le (by omega), Nat.mod_eq_of_lt h5, hq] at h7
  have h8 := valB_lt ((sB m).take k)
  rw [List.length_take_of_le (by omega)] at h8
  have h10 := s10 hm
  rw [← hk] at h2 h3 h4 ⊢
  have hc : k = 0 ∨ k = 1 ∨ k = 2 ∨ k = 3 ∨ k = 4 ∨ k = 5 ∨ k = 6 ∨ k = 7 ∨ k = 8 ∨ k = 9 := by omega
  rw [hq] at h5
  generalize valB (sB m) = v at h2 h7 ⊢
  generalize valB ((sB m).take k) = u at h7 h8
  clear h1 h6 hq hk
  rcases hc with rfl | rfl | rfl | rfl | rfl | rfl | rfl | rfl | rfl | rfl
  all_goals
    simp only [Nat.reduceMul, Nat.reduceAdd, Nat.reduceSub, Int.reducePow, Nat.reducePow] at h2 h3 h4 h7 h8 ⊢
    split <;> omega
set_option maxHeartbeats 2000000 in
theorem specReadS (s : ByteArray) (at_ : Int) (w : World) (hs : s.size ≤ maxLen) (hi : I64 at_) :
    Calls Try.prog 186 #[.string s, .int .i64 at_] w (RetSg s at_ w) := by
  unfold maxLen at hs
  cases hp : (decide (s.size ≤ 2000) && inB at_ 0 (s.size : Int))
  · have HP := Lib.hid hp
    go_enter Try.func186, Try.ntmps186
    go_wp2_with fail
    refine (specL1Place s at_ w).mono ?_
    rintro e w1 ⟨rfl, rfl⟩
    rw [hp]
    go_wp2_with fail
    refine bodyPost_ret (v := .tuple #[.int .i64 0, .int .i64 0, .int .i64 1, .bool false]) (by simp [results, Try.results186, go_sem]) rfl ?_
    exact RetSg.no (fun a m h1 h2 h3 h4 => by
      have h5 := HP.out
      rw [h1, inB_iff.2 ⟨by omega, by have := h4.1; omega⟩] at h5
      simp only [Bool.and_true, decide_eq_false_iff_not] at h5
      exact h5 h2) (Below.refl _ _)
  have hp2 := hp
  rw [Bool.and_eq_true, decide_eq_true_eq] at hp2
  obtain ⟨hz, hin⟩ := hp2
  have hin := inB_iff.1 hin
  obtain ⟨a, rfl⟩ := Int.eq_ofNat_of_zero_le hin.1
  have ha : a ≤ s.size := by omega
  go_enter Try.func186, Try.ntmps186
  go_wp2_with fail
  refine (specL1Place s (a : Int) w).mono ?_
  rintro e w1 ⟨rfl, rfl⟩
  rw [hp]
  clear hp
  go_wp2_with fail
  refine (specL1End s a w hz ha).mono ?_
  rintro e w1 ⟨en, code, rfl, hc0, HA, HT, rfl⟩
  by_cases hc : code > 0
  · go_wp2_with fail
    refine bodyPost_ret (v := .tuple #[.int .i64 0, .int .i64 0, .int .i64 code, .bool false]) (by simp [results, Try.results186, go_sem]) rfl ?_
    exact RetSg.no (fun a m h1 h2 h3 h4 => by have := (HT.out a _ h1 h2 h4 (sB_leb h3)).1; omega) (Below.refl _ _)
  have hc1 : code = 0 := by omega
  subst hc1
  clear hc hc0
  obtain ⟨g1, g2, g3, g4, g5⟩ := HA.out rfl
  obtain ⟨j, rfl⟩ : ∃ j : Nat, en = (j : Int) + 1 := ⟨(en - 1).toNat, by omega⟩
  have hj : j < s.size := by omega
  obtain ⟨q, hq⟩ : ∃ q, (s[j]).toNat = q := ⟨_, rfl⟩
  have HL := Lib.hid (show ∀ m, I64 m → s.size ≤ 2000 → Stt s a (sB m) → j + 1 = a + (sB m).length ∧ ((sB m).length = 10 → q = 0 ∨ q = 127) ∧ (if 64 ≤ q then (-1 : Int) else 0) * 2 ^ (7 * (sB m).length) + (valB (sB m) : Int) = m from fun m h3 h2 h4 => by
    have h5 := (HT.out a _ rfl h2 h4 (sB_leb h3)).2
    have hp := sB_pos m
    have h6 : j + 1 = a + (sB m).length := by omega
    have h8 := h4.at (k := j - a) (by omega) (by omega)
    simp only [show a + (j - a) = j by omega] at h8
    refine ⟨h6, fun h => ?_, ?_⟩
    · have h9 := sB_last10 h3 (k := j - a) (by omega) h (by omega)
      rw [← h8, hq] at h9
      exact h9
    · exact sB_sign h3 (k := j - a) (by omega) (by rw [← h8]; exact hq))
  by_cases hL : (j : Int) + 1 - (a : Int) = 10 ∧ q ≠ 0 ∧ q ≠ 127
  · obtain ⟨hL1, hL2, hL3⟩ := hL
    have hL4 : ¬ (q : Int) = 0 := by omega
    have hL5 : ¬ (q : Int) = 127 := by omega
    have hL6 : ((q : Int) != 0) = true := bne_iff_ne.2 hL4
    have hL7 : ((q : Int) != 127) = true := bne_iff_ne.2 hL5
    go_wp2_with fail
    refine bodyPost_ret (v := .tuple #[.int .i64 0, .int .i64 0, .int .i64 3, .bool false]) (by simp [results, Try.results186, go_sem]) rfl ?_
    exact RetSg.no (fun a2 m h1 h2 h3 h4 => by
      have e : a2 = a := by omega
      subst e
      have := (HL.out m h3 h2 h4).2.1
      have := (HL.out m h3 h2 h4).1
      omega) (Below.refl _ _)
  obtain ⟨t1, t2⟩ := stt_take (s := s) (a := a) (k := j + 1 - a) (by omega)
  obtain ⟨l, hl⟩ : ∃ l, (s.data.toList.drop a).take (j + 1 - a) = l := ⟨_, rfl⟩
  rw [hl] at t1 t2
  have T1 := Lib.hid t1
  have T2 := Lib.hid t2
  have HV := Lib.hid (show ∀ m, I64 m → s.size ≤ 2000 → Stt s a (sB m) → l = sB m from fun m h3 h2 h4 => by
    have h5 := (HL.out m h3 h2 h4).1
    have h6 := stt_eq h4
    rw [show (sB m).length = j + 1 - a by omega, hl] at h6
    exact h6)
  clear hl t1 t2
  have aj : a ≤ j := by omega
  have hll : l.length = j + 1 - a := T2.out
  obtain ⟨sg, hsg⟩ : ∃ sg : Int, (if 64 ≤ q then (-1 : Int) else 0) = sg := ⟨_, rfl⟩
  have HSG := Lib.hid hsg
  rw [hsg] at HL
  clear hsg
  have hcase : ((j : Int) + 1 - (a : Int) = 10 ∧ q = 0 ∧ sg = 0) ∨ ((j : Int) + 1 - (a : Int) = 10 ∧ q = 127 ∧ sg = -1) ∨ (¬ (j : Int) + 1 - (a : Int) = 10 ∧ q ≥ 64 ∧ sg = -1) ∨ (¬ (j : Int) + 1 - (a : Int) = 10 ∧ ¬ q ≥ 64 ∧ sg = 0) := by
    have h1 := HSG.out
    split at h1 <;> omega
  rcases hcase with ⟨hL1, rfl, hsg⟩ | ⟨hL1, rfl, hsg⟩ | ⟨hL1, hq64, hsg⟩ | ⟨hL1, hq64, hsg⟩
  all_goals
    try have hq65 : (q : Int) ≥ 64 := by omega
    try have hq66 : ¬ (q : Int) ≥ 64 := by omega
    go_wp2_with fail
    go_loop [10, 11] (fun nv iv => ∃ (i : Nat) (x : Int), a ≤ i ∧ i ≤ j + 1 ∧ iv = .int .i64 ((i : Int) - 1) ∧ nv = .int .i64 x ∧ Hid (x = wrap64 (sg * 2 ^ (7 * (j + 1 - i)) + (valB (l.drop (i - a)) : Int)))) (fun _ iv => (intOf iv + 1).toNat)
    case atStart => exact ⟨j + 1, sg, by omega, Nat.le_refl _, congrArg (Value.int .i64) (by omega), by rw [hsg], Lib.hid (by rw [List.drop_of_length_le (by omega), hsg, Nat.sub_self]; first | exact ds_0 | exact ds_1)⟩
    case round =>
      obtain ⟨i, x, h1, h2, rfl, rfl, HX⟩ := hrel
      by_cases hlt : a < i
      · obtain ⟨d, rfl⟩ : ∃ d, i = a + d + 1 := ⟨i - a - 1, by omega⟩
        have hdl : d < l.length := by omega
        have hds : a + d < s.size := by omega
        have hat := T1.out.at hdl hds
        have hge : ((a : Int) + (d : Int)) ≥ (a : Int) := by omega
        have e1 : ((a + d + 1 : Nat) : Int) - 1 = ((a + d : Nat) : Int) := by omega
        rw [e1]
        have hv := val_ds (x := x) (sg := sg) (l := l) (d := d) (t := j + 1 - (a + d + 1)) hdl (by rw [HX.out, show a + d + 1 - a = d + 1 by omega])
        rw [show j + 1 - (a + d + 1) + 1 = j + 1 - (a + d) by omega] at hv
        have HVV := Lib.hid hv
        clear hv hsg
        go_wp2_with fail
        go_round
        case rel => exact ⟨a + d, wrap64 (sg * 2 ^ (7 * (j + 1 - (a + d))) + (valB (l.drop d) : Int)), by omega, by omega, congrArg (Value.int .i64) (by omega), congrArg (Value.int .i64) HVV.out, Lib.hid (by rw [show a + d - a = d by omega])⟩
        case measure => simp [intOf]; omega
      · have hia : i = a := by omega
        subst hia
        have HZT := Lib.hid (show ∀ m, I64 m → s.size ≤ 2000 → Stt s i (sB m) → x = m from fun m k3 k2 k4 => by
          have h5 := HV.out m k3 k2 k4
          have h6 := (HL.out m k3 k2 k4).1
          have h7 := (HL.out m k3 k2 k4).2.2
          rw [HX.out, Nat.sub_self, List.drop_zero, h5, show j + 1 - i = (sB m).length by omega, h7]
          unfold I64 at k3; unfold wrap64; omega)
        have HZ : I64 x := by rw [HX.out]; exact i64_wrap _
        have hlt2 : ¬ ((i : Int) - 1 ≥ (i : Int)) := by omega
        have hjs : (j : Int) + 1 ≤ (s.size : Int) := by omega
        obtain ⟨t, ht⟩ : ∃ t, s.extract i (j + 1) = t := ⟨_, rfl⟩
        have hslc : ∀ V, (Instr.slice 9 (.string s) (some (.int .i64 (i : Int))) (some (.int .i64 ((j : Int) + 1))) none).run Try.prog V = .ok (.string t) V := fun V => by
          rw [run_slice_string V 9 s .i64 .i64 (i : Int) ((j : Int) + 1) Try.underlying9 (by omega) (by omega) hjs, ← ht]
          simp only [Int.toNat_natCast, show ((j : Int) + 1).toNat = j + 1 by omega]
        have HTT := Lib.hid (show t.data.toList = l by
          have h5 := stt_eq T1.out
          rw [hll] at h5
          rw [← ht, ← h5, ByteArray.data_extract, Array.toList_extract])
        clear ht hsg
        obtain ⟨o, ho⟩ : ∃ o : ByteArray, (⟨(sB x).toArray⟩ : ByteArray) = o := ⟨_, rfl⟩
        have HO := Lib.hid ho
        clear ho
        by_cases E : o = t
        · subst E
          go_wp2_with fail
          go_region_held3 (fun V' => True) (exact trivial)
            (first | (go_at_call 141; ((with_reducible refine (specPutS _ x HZ).mono ?_); rintro e w5 ⟨rfl, b5⟩; rw [HO.out]; have t5 : Below w.heap.size w w5 := (by exact beloA))))
          go_wp2_with fail
          refine bodyPost_ret (v := .tuple #[.int .i64 x, .int .i64 ((j : Int) + 1), .int .i64 0, .bool true]) (by simp [results, Try.results186, go_sem]) rfl ?_
          refine ⟨x, _, _, true, rfl, HZ, Lib.hid (fun _ => ⟨by omega, by omega, by omega, by omega⟩), Lib.hid (fun a2 m k1 k2 k3 k4 => ?_), Lib.hid (fun h => by simp at h), t5⟩
          have e : a2 = i := by omega
          subst e
          have h6 := (HL.out m k3 k2 k4).1
          exact ⟨rfl, HZT.out m k3 k2 k4, by omega⟩
        · have hne := bytes_ne E
          go_wp2_with fail
          go_region_held3 (fun V' => True) (exact trivial)
            (first | (go_at_call 141; ((with_reducible refine (specPutS _ x HZ).mono ?_); rintro e w5 ⟨rfl, b5⟩; rw [HO.out]; have t5 : Below w.heap.size w w5 := (by exact beloA))))
          go_wp2_with fail
          refine bodyPost_ret (v := .tuple #[.int .i64 0, .int .i64 0, .int .i64 4, .bool false]) (by simp [results, Try.results186, go_sem]) rfl ?_
          exact RetSg.no (fun a2 m k1 k2 k3 k4 => by
            have e : a2 = i := by omega
            subst e
            apply E
            rw [← HO.out, HZT.out m k3 k2 k4, ← HV.out m k3 k2 k4, ← HTT.out]) t5
end Go.Proofs.Ytenpekohbedehaa
