/- Numbers read back from their bytes: the reference's walks. -/
import Derived.Test.YtenpekohbedehaaRdI
import Derived.Deep.RegionHeld3
set_option linter.unusedVariables false
set_option linter.unusedSimpArgs false
set_option maxRecDepth 100000
namespace Go.Proofs.Ytenpekohbedehaa
open Go.RowKit
attribute [local irreducible] wpList
theorem specL1Place (s : ByteArray) (at_ : Int) (w : World) :
    Calls Try.prog 183 #[.string s, .int .i64 at_] w fun e w' => e = .returned (.bool (decide (s.size ≤ 2000) && inB at_ 0 (s.size : Int))) ∧ w = w' := by
  by_cases hz : s.size ≤ 2000
  · have hz1 : (s.size : Int) ≤ 2000 := by omega
    have HD := Lib.hid (show decide (s.size ≤ 2000) = true by simpa using hz)
    go_enter Try.func183, Try.ntmps183
    go_wp2_with (go_at_call 50; ((with_reducible refine (specL1In _ _ _ _).mono ?_); rintro e w2 ⟨rfl, rfl⟩))
    go_ret
    exact ⟨by first | rfl | (rw [HD.out]; rfl), rfl⟩
  · have hz1 : ¬ (s.size : Int) ≤ 2000 := by omega
    have HD := Lib.hid (show decide (s.size ≤ 2000) = false by simpa using hz)
    go_enter Try.func183, Try.ntmps183
    go_wp2_with fail
    go_ret
    exact ⟨by first | rfl | (rw [HD.out]; rfl), rfl⟩
theorem specL1End (s : ByteArray) (a : Nat) (w : World) (hs : s.size ≤ 2000) (ha : a ≤ s.size) :
    Calls Try.prog 184 #[.string s, .int .i64 a] w (RetEnd s (a : Int) w) := by
  go_enter Try.func184, Try.ntmps184
  go_wp2_with fail
  go_loop [6] (fun iv => ∃ k : Nat, k ≤ 9 ∧ a + k ≤ s.size ∧ iv = .int .i64 k ∧ Hid (∀ l, Stt s a l → Leb l → k < l.length)) (fun iv => 10 - (intOf iv).toNat)
  case atStart => exact ⟨0, by omega, by omega, rfl, Lib.hid (fun l _ h => by have := h.1; omega)⟩
  case round =>
    obtain ⟨k, h1, h2, rfl, HT⟩ := hrel
    by_cases hlt : a + k = s.size
    · have hi1 : (a : Int) + (k : Int) = (s.size : Int) := by omega
      go_wp2_with fail
      refine bodyPost_ret (v := .tuple #[.int .i64 0, .int .i64 2]) (by simp [results, Try.results184, go_sem]) rfl ?_
      exact ⟨0, 2, rfl, by omega, Lib.hid (by omega), Lib.hid (fun a2 l ha2 _ h5 h6 => by
        have e : a2 = a := by omega
        subst e
        have := HT.out l h5 h6
        have := h5.len
        omega), rfl⟩
    · have hi1 : ¬ (a : Int) + (k : Int) = (s.size : Int) := by omega
      have hjs : a + k < s.size := by omega
      obtain ⟨q, hq⟩ : ∃ q, (s[a + k]).toNat = q := ⟨_, rfl⟩
      have HQ := Lib.hid (show ∀ l (h5 : Stt s a l) (h6 : Leb l), (q < 128 ↔ k + 1 = l.length) from fun l h5 h6 => by
        have hk := HT.out l h5 h6
        have h7 := h6.2.2 k hk
        rw [← h5.at hk hjs, hq] at h7
        exact h7)
      by_cases hb : q < 128
      · have hbi : (q : Int) < 128 := by omega
        go_wp2_with fail
        refine bodyPost_ret (v := .tuple #[.int .i64 ((a : Int) + (k : Int) + 1), .int .i64 0]) (by simp [results, Try.results184, go_sem]) rfl ?_
        exact ⟨_, _, rfl, by omega, Lib.hid (fun _ => ⟨by omega, by omega, by omega, by omega, by omega⟩), Lib.hid (fun a2 l ha2 _ h5 h6 => ⟨rfl, by
          have e : a2 = a := by omega
          subst e
          have := (HQ.out l h5 h6).1 hb
          omega⟩), rfl⟩
      · have hbi : ¬ (q : Int) < 128 := by omega
        by_cases h9 : k = 9
        · subst h9
          go_wp2_with fail
          refine bodyPost_ret (v := .tuple #[.int .i64 0, .int .i64 3]) (by simp [results, Try.results184, go_sem]) rfl ?_
          exact ⟨0, 3, rfl, by omega, Lib.hid (by omega), Lib.hid (fun a2 l ha2 _ h5 h6 => by
            have e : a2 = a := by omega
            subst e
            have h10 := HT.out l h5 h6
            have h11 := h6.2.1
            have h12 := (HQ.out l h5 h6).2 (by omega)
            exact absurd h12 hb), rfl⟩
        · have h9i : ¬ (k : Int) = 9 := by omega
          go_wp2_with fail
          go_round
          case rel =>
            exact ⟨k + 1, by omega, by omega, by go_num, Lib.hid (fun l h5 h6 => by
              have h10 := HT.out l h5 h6
              have h12 := HQ.out l h5 h6
              by_cases h13 : k + 1 = l.length
              · exact absurd (h12.2 h13) hb
              · omega)⟩
          case measure => simp [intOf]; omega
theorem valB_drop {l : List UInt8} {k : Nat} (hk : k < l.length) : valB (l.drop k) = l[k].toNat % 128 + 128 * valB (l.drop (k + 1)) := by
  rw [List.drop_eq_getElem_cons hk]; rfl
theorem bytes_ne {o t : ByteArray} (E : ¬ o = t) : (!o.toList == t.toList) = true := by
  have hnl : ¬ o.data.toList = t.data.toList := fun h => E (ByteArray.ext (Array.toList_inj.1 h))
  rw [ByteArray.toList_eq, ByteArray.toList_eq]
  simpa using hnl
theorem val_dn {x : Nat} {l : List UInt8} {d : Nat} (hd : d < l.length) (hx : x = valB (l.drop (d + 1)) % 18446744073709551616) :
    IntKind.u64.wrap (IntKind.u64.wrap ((x : Int) * 128) + IntKind.u64.wrap (bits .and .u8 (l[d].toNat : Int) 127)) = ((valB (l.drop d) % 18446744073709551616 : Nat) : Int) := by
  rw [and127b, IntKind.wrap_u64, IntKind.wrap_u64, IntKind.wrap_u64, valB_drop hd]
  omega
set_option maxHeartbeats 2000000 in
theorem specReadU (s : ByteArray) (at_ : Int) (w : World) (hs : s.size ≤ maxLen) (hi : I64 at_) :
    Calls Try.prog 133 #[.string s, .int .i64 at_] w (RetU s at_ w) := by
  unfold maxLen at hs
  cases hp : (decide (s.size ≤ 2000) && inB at_ 0 (s.size : Int))
  · have HP := Lib.hid hp
    go_enter Try.func133, Try.ntmps133
    go_wp2_with fail
    refine (specL1Place s at_ w).mono ?_
    rintro e w1 ⟨rfl, rfl⟩
    rw [hp]
    go_wp2_with fail
    refine bodyPost_ret (v := .tuple #[.int .u64 0, .int .i64 0, .int .i64 1, .bool false]) (by simp [results, Try.results133, go_sem]) rfl ?_
    exact RetU.no (fun a m h1 h2 h3 h4 => by
      have h5 := HP.out
      rw [h1, inB_iff.2 ⟨by omega, by have := h4.1; omega⟩] at h5
      simp only [Bool.and_true, decide_eq_false_iff_not] at h5
      exact h5 h2) (Below.refl _ _)
  have hp2 := hp
  rw [Bool.and_eq_true, decide_eq_true_eq] at hp2
  obtain ⟨hz, hin⟩ := hp2
  have hin := inB_iff.1 hin
  obtain ⟨a, rfl⟩ := Int.eq_ofNat_of_zero_le hin.1
  have ha : a ≤ s.size := by omega
  go_enter Try.func133, Try.ntmps133
  go_wp2_with fail
  refine (specL1Place s (a : Int) w).mono ?_
  rintro e w1 ⟨rfl, rfl⟩
  rw [hp]
  clear hp
  go_wp2_with fail
  refine (specL1End s a w hz ha).mono ?_
  rintro e w1 ⟨en, code, rfl, hc0, HA, HT, rfl⟩
  by_cases hc : code > 0
  · go_wp2_with fail
    refine bodyPost_ret (v := .tuple #[.int .u64 0, .int .i64 0, .int .i64 code, .bool false]) (by simp [results, Try.results133, go_sem]) rfl ?_
    exact RetU.no (fun a m h1 h2 h3 h4 => by have := (HT.out a _ h1 h2 h4 (uB_leb h3)).1; omega) (Below.refl _ _)
  have hc1 : code = 0 := by omega
  subst hc1
  clear hc hc0
  obtain ⟨g1, g2, g3, g4, g5⟩ := HA.out rfl
  obtain ⟨j, rfl⟩ : ∃ j : Nat, en = (j : Int) + 1 := ⟨(en - 1).toNat, by omega⟩
  have hj : j < s.size := by omega
  obtain ⟨q, hq⟩ : ∃ q, (s[j]).toNat = q := ⟨_, rfl⟩
  have HL := Lib.hid (show ∀ m, m < 18446744073709551616 → s.size ≤ 2000 → Stt s a (uB m) → j + 1 = a + (uB m).length ∧ ((uB m).length = 10 → q ≤ 1) from fun m h3 h2 h4 => by
    have h5 := (HT.out a _ rfl h2 h4 (uB_leb h3)).2
    have hp := uB_pos m
    have h6 : j + 1 = a + (uB m).length := by omega
    have h7 := uB_last (m := m) (k := j - a) h3 (by omega)
    have h8 := h4.at (k := j - a) (by omega) (by omega)
    simp only [show a + (j - a) = j by omega] at h8
    rw [← h8, hq] at h7
    exact ⟨h6, fun h => h7.2.2 (by omega)⟩)
  by_cases hL : (j : Int) + 1 - (a : Int) = 10 ∧ 1 < q
  · have hq1 : (q : Int) > 1 := by omega
    have hq2 := hL.1
    have hq3 : (1 : Int) < (q : Int) := by omega
    go_wp2_with fail
    refine bodyPost_ret (v := .tuple #[.int .u64 0, .int .i64 0, .int .i64 3, .bool false]) (by simp [results, Try.results133, go_sem]) rfl ?_
    exact RetU.no (fun a2 m h1 h2 h3 h4 => by
      have e : a2 = a := by omega
      subst e
      have := HL.out m h3 h2 h4
      omega) (Below.refl _ _)
  obtain ⟨t1, t2⟩ := stt_take (s := s) (a := a) (k := j + 1 - a) (by omega)
  obtain ⟨l, hl⟩ : ∃ l, (s.data.toList.drop a).take (j + 1 - a) = l := ⟨_, rfl⟩
  rw [hl] at t1 t2
  have T1 := Lib.hid t1
  have T2 := Lib.hid t2
  have HV := Lib.hid (show ∀ m, m < 18446744073709551616 → s.size ≤ 2000 → Stt s a (uB m) → l = uB m from fun m h3 h2 h4 => by
    have h5 := (HL.out m h3 h2 h4).1
    have h6 := stt_eq h4
    rw [show (uB m).length = j + 1 - a by omega, hl] at h6
    exact h6)
  clear hl t1 t2
  have aj : a ≤ j := by omega
  have hll : l.length = j + 1 - a := T2.out
  by_cases hL1 : (j : Int) + 1 - (a : Int) = 10
  all_goals
    try have hq1 : ¬ (q : Int) > 1 := by omega
    try have hq2 : ¬ (1 : Int) < (q : Int) := by omega
    go_wp2_with fail
    go_loop [10, 11] (fun nv iv => ∃ i x : Nat, a ≤ i ∧ i ≤ j + 1 ∧ iv = .int .i64 ((i : Int) - 1) ∧ nv = .int .u64 x ∧ x < 18446744073709551616 ∧ Hid (x = valB (l.drop (i - a)) % 18446744073709551616)) (fun _ iv => (intOf iv + 1).toNat)
    case atStart => exact ⟨j + 1, 0, by omega, Nat.le_refl _, congrArg (Value.int .i64) (by omega), rfl, by omega, Lib.hid (by rw [List.drop_of_length_le (by omega)]; simp [valB])⟩
    case round =>
      obtain ⟨i, x, h1, h2, rfl, rfl, hx, HX⟩ := hrel
      by_cases hlt : a < i
      · obtain ⟨d, rfl⟩ : ∃ d, i = a + d + 1 := ⟨i - a - 1, by omega⟩
        have hdl : d < l.length := by omega
        have hds : a + d < s.size := by omega
        have hat := T1.out.at hdl hds
        have hge : ((a : Int) + (d : Int)) ≥ (a : Int) := by omega
        have e1 : ((a + d + 1 : Nat) : Int) - 1 = ((a + d : Nat) : Int) := by omega
        rw [e1]
        have hv := val_dn (x := x) (l := l) (d := d) hdl (by rw [HX.out, show a + d + 1 - a = d + 1 by omega])
        go_wp2_with fail
        go_round
        case rel => exact ⟨a + d, valB (l.drop d) % 18446744073709551616, by omega, by omega, congrArg (Value.int .i64) (by omega), congrArg (Value.int .u64) (by first | omega | (rw [hv]; done)), Nat.mod_lt _ (by decide), Lib.hid (by rw [show a + d - a = d by omega])⟩
        case measure => simp [intOf]; omega
      · have hia : i = a := by omega
        subst hia
        have HX2 := Lib.hid (show x = valB l % 18446744073709551616 by rw [HX.out, Nat.sub_self, List.drop_zero])
        have hlt2 : ¬ ((i : Int) - 1 ≥ (i : Int)) := by omega
        have hjs : (j : Int) + 1 ≤ (s.size : Int) := by omega
        obtain ⟨t, ht⟩ : ∃ t, s.extract i (j + 1) = t := ⟨_, rfl⟩
        have hslc : ∀ V, (Instr.slice 9 (.string s) (some (.int .i64 (i : Int))) (some (.int .i64 ((j : Int) + 1))) none).run Try.prog V = .ok (.string t) V := fun V => by
          rw [run_slice_string V 9 s .i64 .i64 (i : Int) ((j : Int) + 1) Try.underlying9 (by omega) (by omega) hjs, ← ht]
          simp only [Int.toNat_natCast, show ((j : Int) + 1).toNat = j + 1 by omega]
        have HTT := Lib.hid (show t.data.toList = l by
          have h5 := stt_eq T1.out
          rw [hll] at h5
          rw [← ht, ← h5, ByteArray.data_extract, Array.toList_extract])
        clear ht
        obtain ⟨o, ho⟩ : ∃ o : ByteArray, (⟨(uB x).toArray⟩ : ByteArray) = o := ⟨_, rfl⟩
        have HO := Lib.hid ho
        clear ho
        by_cases E : o = t
        · subst E
          go_wp2_with fail
          go_region_held3 (fun V' => True) (exact trivial)
            (first | (go_at_call 185; ((with_reducible refine (specPutU1 _ x hx).mono ?_); rintro e w5 ⟨rfl, b5⟩; rw [HO.out]; have t5 : Below w.heap.size w w5 := (by exact beloA))))
          go_wp2_with fail
          refine bodyPost_ret (v := .tuple #[.int .u64 x, .int .i64 ((j : Int) + 1), .int .i64 0, .bool true]) (by simp [results, Try.results133, go_sem]) rfl ?_
          refine ⟨x, _, _, true, rfl, hx, Lib.hid (fun _ => ⟨by omega, by omega, by omega, by omega⟩), Lib.hid (fun a2 m k1 k2 k3 k4 => ?_), Lib.hid (fun h => by simp at h), t5⟩
          have e : a2 = i := by omega
          subst e
          have h5 := HV.out m k3 k2 k4
          have h6 := (HL.out m k3 k2 k4).1
          have h7 := HX2.out
          rw [h5, valB_uB m m (Nat.le_refl _)] at h7
          exact ⟨rfl, by omega, by omega⟩
        · have hne := bytes_ne E
          go_wp2_with fail
          go_region_held3 (fun V' => True) (exact trivial)
            (first | (go_at_call 185; ((with_reducible refine (specPutU1 _ x hx).mono ?_); rintro e w5 ⟨rfl, b5⟩; rw [HO.out]; have t5 : Below w.heap.size w w5 := (by exact beloA))))
          go_wp2_with fail
          refine bodyPost_ret (v := .tuple #[.int .u64 0, .int .i64 0, .int .i64 4, .bool false]) (by simp [results, Try.results133, go_sem]) rfl ?_
          exact RetU.no (fun a2 m k1 k2 k3 k4 => by
            have e : a2 = i := by omega
            subst e
            have h5 := HV.out m k3 k2 k4
            have h7 := HX2.out
            rw [h5, valB_uB m m (Nat.le_refl _)] at h7
            have h8 : x = m := by omega
            apply E
            rw [← HO.out, h8, ← h5, ← HTT.out]) t5
end Go.Proofs.Ytenpekohbedehaa
