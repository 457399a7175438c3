/- Rows read back: the program's walk. -/
import Derived.Test.YtgoinmdnpaknpaaGreatRdE
import Derived.Test.YtgoinmdnpaknpaaGreatKit1
import Derived.Test.YtgoinmdnpaknpaaGreatChk
set_option linter.unusedVariables false
set_option linter.unusedSimpArgs false
set_option maxRecDepth 100000
namespace Go.Proofs.YtgoinmdnpaknpaaGreat
open Go.RowKit
attribute [local irreducible] wpList
theorem row_one {x0 x1 x2 : Int} : ∀ u ∈ ([.int .i64 x0, .int .i64 x1, .int .i64 x2] : List Value), u.oneCell' = true := by
  intro u hu; simp at hu; rcases hu with rfl | rfl | rfl <;> rfl
theorem Tryz.infoRowR : (Tryz.prog.info? 71).map (fun i => (i.zero, i.size, i.bytes)) = some (some (.agg #[.int .i64 0, .int .i64 0, .int .i64 0]), 3, 24) := by kernel_rfl
def RetRws (s : ByteArray) (x0 many : Int) (w : World) (e : Ending) (w' : World) : Prop :=
  ∃ (A : Option Addr) (n c : Nat) (l : List Row) (en code : Int) (F : List Nat), e = .returned (.tuple #[.slice A n c, .int .i64 en, .int .i64 code]) ∧ I64 en ∧ Hid (OwnSl RowR w' 71 F (.slice A n c) l) ∧ Hid (∀ k, k ∈ F → w.heap.size ≤ k) ∧ l.length ≤ 300 ∧ Hid (RowsP s x0 true many l en (code == 0)) ∧ Below w.heap.size w w'
theorem RetRws.no {s : ByteArray} {x0 many code : Int} {w w' : World} (h : RowsP s x0 true many [] 0 false) (hc : (code == 0) = false) (hb : Below w.heap.size w w') : RetRws s x0 many w (.returned (.tuple #[.slice none 0 0, .int .i64 0, .int .i64 code])) w' :=
  ⟨none, 0, 0, [], 0, code, [], rfl, by unfold I64; omega, Lib.hid (OwnSl.nil_ ..), Lib.hid (by simp), by simp, Lib.hid (by rw [hc]; exact h), hb⟩
set_option maxHeartbeats 8000000 in
theorem implReadRows (w : World) (s : ByteArray) (x0 : Int) (many : Nat) (hs : s.size ≤ maxLen) (hx : I64 x0) (hmany : many ≤ 1000000) :
    Calls Tryz.prog 63 #[.string s, .int .i64 x0, .int .i64 many] w (RetRws s x0 many w) := by
  go_enter Tryz.func63, Tryz.ntmps63
  go_wp2_with fail
  refine (implReadU s x0 w hs hx).mono ?_
  rintro e w1 ⟨m, en, code, ok, rfl, hm, HA, HT, HO, hb1⟩
  have HP := Lib.hid (numP_of (n := (m : Int)) HA.out (fun a m h1 h2 h3 h4 => by obtain ⟨g1, g2, g3⟩ := HT.out a m h1 h2 h3 h4; exact ⟨g1, by rw [g2], g3⟩))
  have hx1 := i64_en hs HA.out HO.out
  have HF := Lib.hid (RFol.many (many := (many : Int)) HP.out (by omega))
  clear HA HT HO
  cases ok
  · go_wp2_with fail
    refine bodyPost_ret (v := .tuple #[.slice none 0 0, .int .i64 0, .int .i64 1]) (by simp [results, Tryz.results63, go_sem]) rfl ?_
    exact RetRws.no HF.out.dead rfl hb1
  by_cases h300 : (m : Int) > 300
  · go_wp2_with fail
    refine bodyPost_ret (v := .tuple #[.slice none 0 0, .int .i64 0, .int .i64 1]) (by simp [results, Tryz.results63, go_sem]) rfl ?_
    exact RetRws.no (HF.out.bad (fun r k1 _ _ hm => by have := hm.2; simp only [List.length_nil] at this; omega)) rfl hb1
  go_wp2_with fail
  go_loopw [1, 12, 13, 14, 43] (fun xv rv ev sv iv wr => ∃ (k : Nat) (x y : Int) (A : Option Addr) (n c : Nat) (l : List Row) (sm : Bool) (F : List Nat), k ≤ m ∧ iv = .int .u64 k ∧ xv = .int .i64 x ∧ rv = .slice A n c ∧ ev = .int .i64 y ∧ sv = .bool sm ∧ I64 x ∧ (0 ≤ y ∧ y ≤ 2000000 * k) ∧ Hid (y = endOf l) ∧ l.length ≤ k ∧ Hid (OwnSl RowR wr 71 F (.slice A n c) l) ∧ Hid (∀ j, j ∈ F → w.heap.size ≤ j) ∧ Hid (RFol s x0 true many x sm (MR l ((m : Int) - k)) (rmR l)) ∧ Below w.heap.size w wr) (fun _ _ _ _ iv _ => m - (intOf iv).toNat)
  case atStart => exact ⟨0, en, 0, none, 0, 0, [], true, [], Nat.zero_le _, rfl, rfl, rfl, rfl, rfl, hx1, by omega, Lib.hid rfl, Nat.le_refl _, Lib.hid (OwnSl.nil_ ..), Lib.hid (by simp), Lib.hid (by rw [show ((m : Int) - ((0 : Nat) : Int)) = (m : Int) by omega]; exact HF.out), by exact belA⟩
  case round =>
    clear HF HP hx1
    obtain ⟨k, x, y, A, n, c, l, sm, F, hk, rfl, rfl, rfl, rfl, rfl, hx1, ⟨hy0, hy1⟩, HY, hlk, HO, HFF, HF, hb⟩ := hrel
    by_cases hlt : (k : Int) < (m : Int)
    · go_wp2_with fail
      refine (implReadU s x wr hs hx1).mono ?_
      rintro e w2 ⟨g, e1, code1, ok1, rfl, hg, HA, HT, HE, b2⟩
      have HP1 := Lib.hid (numP_of (n := (g : Int)) HA.out (fun a m h1 h2 h3 h4 => by obtain ⟨g1, g2, g3⟩ := HT.out a m h1 h2 h3 h4; exact ⟨g1, by rw [g2], g3⟩))
      have hx2 := i64_en hs HA.out HE.out
      clear HA HT HE
      go_wp2_with fail
      refine (implReadU s e1 w2 hs hx2).mono ?_
      rintro e w3 ⟨lg, e2, code2, ok2, rfl, hlg, HA, HT, HE, b3⟩
      have HP2 := Lib.hid (numP_of (n := (lg : Int)) HA.out (fun a m h1 h2 h3 h4 => by obtain ⟨g1, g2, g3⟩ := HT.out a m h1 h2 h3 h4; exact ⟨g1, by rw [g2], g3⟩))
      have hx3 := i64_en hs HA.out HE.out
      clear HA HT HE
      go_wp2_with fail
      refine (implReadS s e2 w3 hs hx3).mono ?_
      rintro e w4 ⟨by_, e3, code3, ok3, rfl, hby, HA, HT, HE, b4⟩
      have HP3 := Lib.hid (sgP_of HA.out HT.out)
      have hx4 := i64_en hs HA.out HE.out
      clear HA HT HE
      have HF3 := Lib.hid (((HF.out.gap (by omega) (HP1.out.and sm) (by omega)).long (by omega) (HP2.out.and _) (by omega)).pad (by omega) (HP3.out.and _))
      have hb4 : Below w.heap.size w w4 := below_then hb (below_then (below_then b2 b3) b4)
      clear HP1 HP2 HP3 HF
      by_cases hoks : ok1 = true ∧ ok2 = true ∧ ok3 = true
      rotate_left
      · have HD := Lib.hid (show RowsP s x0 true many [] 0 false from by
          have h9 := HF3.out
          rw [show ((((sm && ok1) && ok2) && ok3)) = false by cases sm <;> cases ok1 <;> cases ok2 <;> cases ok3 <;> simp at hoks ⊢] at h9
          exact h9.dead)
        have hb1' : ok1 = false ∨ (ok1 = true ∧ ok2 = false) ∨ (ok1 = true ∧ ok2 = true ∧ ok3 = false) := by cases ok1 <;> cases ok2 <;> cases ok3 <;> simp at hoks ⊢
        clear hoks HF3
        rcases hb1' with rfl | ⟨rfl, rfl⟩ | ⟨rfl, rfl, rfl⟩
        all_goals
          go_wp2_with fail
          refine bodyPost_ret (v := .tuple #[.slice none 0 0, .int .i64 0, .int .i64 2]) (by simp [results, Tryz.results63, go_sem]) rfl ?_
          exact RetRws.no HD.out rfl hb4
      obtain ⟨rfl, rfl, rfl⟩ := hoks
      have HG := Lib.hid (show RFol s x0 true many e3 sm (MG3 l ((m : Int) - k) g lg by_) (rmI l) from by have h9 := HF3.out; rw [Bool.and_true, Bool.and_true, Bool.and_true] at h9; exact h9)
      have hz4 := hb4.size
      clear HF3
      replace HO := Lib.hid (HO.out.below (below_then (below_then b2 b3) b4))
      have hk300 : k < 300 := by omega
      clear b2 b3 b4
      obtain ⟨bw, hbw⟩ : ∃ b, inB by_ (-1000000) 1000000 = b := ⟨_, rfl⟩
      have HBW := Lib.hid hbw
      clear hbw
      by_cases hsm : sm = true ∧ (g : Int) ≤ 1000000 ∧ (lg : Int) ≤ 1000000 ∧ bw = true
      rotate_left
      · have HN := Lib.hid (show RFol s x0 true many e3 false (MR l ((m : Int) - ((k + 1 : Nat) : Int))) (rmR l) from HG.out.off (fun r k1 k2 k3 hm h8 => by
          obtain ⟨⟨⟨m1, m2⟩, m3⟩, m4⟩ := hm
          obtain ⟨hl, e1, q0, q1, q2, q3, q4, q5⟩ := rwK_at m1 (by omega) k3
          refine hsm ⟨h8, by omega, by omega, ?_⟩
          rw [← HBW.out]; exact inB_true (by omega)))
        have hc : sm = false ∨ (sm = true ∧ ¬ (g : Int) ≤ 1000000) ∨ (sm = true ∧ (g : Int) ≤ 1000000 ∧ ¬ (lg : Int) ≤ 1000000) ∨ (sm = true ∧ (g : Int) ≤ 1000000 ∧ (lg : Int) ≤ 1000000 ∧ bw = false) := by
          cases sm
          · exact Or.inl rfl
          · cases bw
            · by_cases q1 : (g : Int) ≤ 1000000
              · by_cases q2 : (lg : Int) ≤ 1000000
                · exact Or.inr (Or.inr (Or.inr ⟨rfl, q1, q2, rfl⟩))
                · exact Or.inr (Or.inr (Or.inl ⟨rfl, q1, q2⟩))
              · exact Or.inr (Or.inl ⟨rfl, q1⟩)
            · by_cases q1 : (g : Int) ≤ 1000000
              · by_cases q2 : (lg : Int) ≤ 1000000
                · exact absurd ⟨rfl, q1, q2, rfl⟩ hsm
                · exact Or.inr (Or.inr (Or.inl ⟨rfl, q1, q2⟩))
              · exact Or.inr (Or.inl ⟨rfl, q1⟩)
        clear hsm HG
        rcases hc with rfl | ⟨rfl, q1⟩ | ⟨rfl, q1, q2⟩ | ⟨rfl, q1, q2, rfl⟩
        all_goals
          go_wp2_with (go_at_call 65; ((with_reducible refine (implWithin _ _ _ _).mono ?_); rintro e w5 ⟨rfl, rfl⟩; rw [HBW.out]))
          go_roundw
          case rel => exact ⟨k + 1, e3, y, A, n, c, l, false, F, by omega, by go_num, rfl, rfl, rfl, rfl, hx4, ⟨by omega, by omega⟩, HY, by omega, HO, HFF, HN, hb4⟩
          case measure => simp [intOf]; omega
      obtain ⟨rfl, q1, q2, rfl⟩ := hsm
      obtain ⟨inf, hif, hz0, hz1, hz2⟩ := info_parts Tryz.infoRowR
      have HIF := Lib.hid hif
      have HZ0 := Lib.hid hz0
      have HZ1 := Lib.hid hz1
      have HZ2 := Lib.hid hz2
      clear hif hz0 hz1 hz2
      have q3 := inB_iff.1 HBW.out
      obtain ⟨a, ea⟩ : ∃ a, y + (g : Int) = a := ⟨_, rfl⟩
      obtain ⟨b, eb⟩ : ∃ b, a + (lg : Int) = b := ⟨_, rfl⟩
      obtain ⟨d, ed⟩ : ∃ d, b + by_ = d := ⟨_, rfl⟩
      have ba : 0 ≤ a ∧ a ≤ 600000000 := by omega
      have bb : 0 ≤ b ∧ b ≤ 601000000 := by omega
      have bd : -1000000 ≤ d ∧ d ≤ 602000000 := by omega
      obtain ⟨ba1, ba2⟩ := ba
      obtain ⟨bb1, bb2⟩ := bb
      obtain ⟨bd1, bd2⟩ := bd
      have wg : IntKind.i64.wrap (g : Int) = (g : Int) := IntWalk.i64_in _ (by omega)
      have wl : IntKind.i64.wrap (lg : Int) = (lg : Int) := IntWalk.i64_in _ (by omega)
      have HN := Lib.hid (show RFol s x0 true many e3 true (MR (l ++ [(a, b, d)]) ((m : Int) - ((k + 1 : Nat) : Int))) (rmR (l ++ [(a, b, d)])) from by
        rw [show (m : Int) - ((k + 1 : Nat) : Int) = (m : Int) - k - 1 by omega]
        exact HG.out.row (by omega) (fun h => h) (fun _ _ _ _ _ _ h => ⟨h, by rw [← HY.out]; omega, by omega, by omega⟩))
      have HYN := Lib.hid (show b = endOf (l ++ [(a, b, d)]) by rw [endOf_snoc])
      have hyk : b ≤ 2000000 * ((k + 1 : Nat) : Int) := by omega
      clear HG
      go_wp2_with (first
        | (go_at_call 65; ((with_reducible refine (implWithin _ _ _ _).mono ?_); rintro e w5 ⟨rfl, rfl⟩; rw [HBW.out]))
        | (at_builtin; refine wpl_own1 _ rfl _ _ 37 rfl RowR 71 inf (.agg #[.int .i64 0, .int .i64 0, .int .i64 0]) 3 24 Tryz.underlying37 HIF.out HZ0.out HZ1.out HZ2.out rfl rfl (by decide) (.slice A n c) l.length l F rfl rfl (HO.out.below (show Below w4.heap.size w4 _ by exact belA)) ⟨w4.heap.size + 1, 0, none⟩ 1 [.int .i64 a, .int .i64 b, .int .i64 d] (a, b, d) [] rfl (cells_new _ _ _ (by simp)) (Row_own _ a b d (by unfold I64; omega) (by unfold I64; omega) (by unfold I64; omega)) row_one (fun j hj => by cases hj) (by omega) (by decide) ?_))
      intro v' w5 F' ho' hgr hF'
      obtain ⟨A', n', c', rfl, _⟩ := ho'.form
      have HO' := Lib.hid ho'
      have HFF' := Lib.hid (show ∀ j, j ∈ F' → w.heap.size ≤ j from fun j hj => by
        rcases hF' j hj with h | h
        · exact HFF.out j h
        · rw [h]; first | omega | (simp; omega))
      have hb5 : Below w.heap.size w w5 := below_grown0 (show Below w.heap.size w _ by exact belA) hgr (by simp; omega) (fun j hj => HFF.out j (HO.out.ownB j hj))
      have hcb : w5.cell? ⟨w4.heap.size, 1, none⟩ = some (.int .i64 b) := cell_fr (grown_fr hgr) (fun hk => by
        have h1 := HO.out.lt w4.heap.size (HO.out.ownB _ (by simpa using hk))
        omega) (by simp [go_sem])
      clear ho' hgr hF' ea eb ed
      go_wp2_with fail
      go_roundw
      case rel => exact ⟨k + 1, e3, b, A', n', c', l ++ [(a, b, d)], true, F', by omega, by go_num, rfl, rfl, rfl, rfl, hx4, ⟨by omega, hyk⟩, HYN, by simp; omega, HO', HFF', HN, hb5⟩
      case measure => simp [intOf]; omega
    · have hkm : k = m := by omega
      subst hkm
      have hlm : (l.length : Int) ≤ 300 := by omega
      cases sm
      · go_wp2_with fail
        refine bodyPost_ret (v := .tuple #[.slice none 0 0, .int .i64 0, .int .i64 3]) (by simp [results, Tryz.results63, go_sem]) rfl ?_
        exact RetRws.no HF.out.dead rfl hb
      · obtain ⟨rb, hrb⟩ : ∃ r, rowsB l (many : Int) = r := ⟨_, rfl⟩
        have HRB := Lib.hid hrb
        clear hrb
        go_wp2_with fail
        refine (implAreRows wr 0 wr.heap.size A n c l many HO.out.sl (Nat.le_refl _) (by omega)).mono ?_
        rintro e w5 ⟨rfl, b5⟩
        rw [HRB.out]
        have hb5 : Below w.heap.size w w5 := below_then hb b5
        cases rb
        · go_wp2_with fail
          refine bodyPost_ret (v := .tuple #[.slice none 0 0, .int .i64 0, .int .i64 3]) (by simp [results, Tryz.results63, go_sem]) rfl ?_
          exact RetRws.no (HF.out.bad (fun r k1 k2 k3 hm => by
            obtain ⟨m1, m2⟩ := hm
            have h6 := congrArg List.length m1
            rw [List.length_take] at h6
            rw [List.take_of_length_le (by omega)] at m1
            have := HRB.out
            rw [m1, k3] at this
            cases this)) rfl hb5
        · go_wp2_with fail
          refine bodyPost_ret (v := .tuple #[.slice A n c, .int .i64 x, .int .i64 0]) (by simp [results, Tryz.results63, go_sem]) rfl ?_
          exact ⟨A, n, c, l, x, 0, F, rfl, hx1, Lib.hid (HO.out.below b5), HFF, by omega, Lib.hid (HF.out.done (fun _ => by omega) (fun _ => rfl) (fun _ _ => rfl)), hb5⟩
end Go.Proofs.YtgoinmdnpaknpaaGreat
