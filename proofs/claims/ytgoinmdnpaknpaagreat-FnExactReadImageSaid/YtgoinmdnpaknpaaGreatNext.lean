/- Where an instruction goes on: walks of both sides. -/
import Derived.Test.YtgoinmdnpaknpaaGreatSortI
import Derived.Test.YtgoinmdnpaknpaaGreatSlc
import Derived.Test.YtgoinmdnpaknpaaGreatFlatK
import Derived.Test.YtgoinmdnpaknpaaGreatHeightP
import Derived.Test.YtgoinmdnpaknpaaGreatCheckP
import Derived.IntWalk
import Derived.Deep.QuietTactic
import Derived.BigQuiet
set_option linter.unusedVariables false
set_option linter.unusedSimpArgs false
set_option maxRecDepth 100000
namespace Go.Proofs.YtgoinmdnpaknpaaGreat
open Go.RowKit
def IntRow (w : World) (base : Nat) (v : Value) (l : List Int) : Prop := w.ownsRow base 3 1 v l.length (l.map (Value.int .i64))
def RetInts (l : List Int) (w : World) (e : Ending) (w' : World) : Prop := ∃ v, e = .returned v ∧ IntRow w' w.heap.size v l ∧ Below w.heap.size w w'
theorem IntRow.nil_ (w : World) (base : Nat) : IntRow w base (.slice none 0 0) [] := World.ownsRow_nil _ _ _ _
theorem IntRow.below {w w' : World} {base : Nat} {v : Value} {l : List Int} (h : IntRow w base v l) (hb : Below w.heap.size w w') : IntRow w' base v l := ownsRow_below h hb
theorem IntRow.form {w : World} {b : Nat} {v : Value} {l : List Int} (h : IntRow w b v l) : ∃ A m c, v = .slice A m c ∧ m = l.length := by
  rcases h.2 with ⟨rfl, h0⟩ | ⟨g, cap, cur, rfl, _⟩
  · exact ⟨_, _, _, rfl, h0.symm⟩
  · exact ⟨_, _, _, rfl, rfl⟩
theorem IntRow.mono {w : World} {b b' : Nat} {v : Value} {l : List Int} (h : IntRow w b v l) (hb : b' ≤ b) : IntRow w b' v l := World.ownsRow.mono h hb
theorem IntRow.sl {w : World} {b : Nat} {A : Option Addr} {n c : Nat} {l : List Int} (h : IntRow w b (.slice A n c) l) (hok : ∀ x, x ∈ l → I64 x) : Sl intR w 0 w.heap.size A n c l := OwnSl.sl (own_ints h hok)
theorem IntRow.new1 {w : World} {g base : Nat} (hg : w.heap.size = g) (hb : base ≤ g) (x : Int) : IntRow (w.alloc (.cells #[.int .i64 x] 3)) base (.slice (some ⟨g, 0, none⟩) 1 1) [x] := by
  subst hg
  exact ⟨rfl, Or.inr ⟨_, 1, #[.int .i64 x], rfl, hb, heap_alloc_new _ _, Nat.le_refl _, by unfold maxLen; omega, rfl, rfl⟩⟩
theorem IntRow.new2 {w : World} {g base : Nat} (hg : w.heap.size = g) (hb : base ≤ g) (x y : Int) : IntRow (w.alloc (.cells #[.int .i64 x, .int .i64 y] 3)) base (.slice (some ⟨g, 0, none⟩) 2 2) [x, y] := by
  subst hg
  exact ⟨rfl, Or.inr ⟨_, 2, #[.int .i64 x, .int .i64 y], rfl, hb, heap_alloc_new _ _, Nat.le_refl _, by unfold maxLen; omega, rfl, rfl⟩⟩
theorem IntRow.at_ {w : World} {b g m c k : Nat} {l : List Int} (h : IntRow w b (.slice (some ⟨g, 0, none⟩) m c) l) (hk : k < l.length) : w.cell? ⟨g, k, none⟩ = some (.int .i64 l[k]) := by
  unfold IntRow at h
  have hm := (ownsRow_cases (World.ownsRow.mono h (Nat.zero_le _))).1
  subst hm
  have h0 := h.cellAt k (by omega)
  rw [h0]; simp [hk]
theorem sort_two (a b : Int) : ([a, b].mergeSort fun x y => decide (x ≤ y)) = if a ≤ b then [a, b] else [b, a] := by
  by_cases h : a ≤ b <;> simp [List.mergeSort, List.MergeSort.Internal.splitInTwo, List.merge, h]
theorem Tryz.zeroIntV (w : World) : (zeroValue 3).run Tryz.prog w = .ok (.int .i64 0) w := by kernel_rfl
set_option maxHeartbeats 2000000 in
theorem compact2 (w : World) (base g c : Nat) (a b : Int) (h : IntRow w base (.slice (some ⟨g, 0, none⟩) 2 c) [a, b]) :
    Calls Tryz.prog 112 #[.slice (some ⟨g, 0, none⟩) 2 c] w fun e w' => ∃ v, e = .returned v ∧ IntRow w' base v (if a = b then [a] else [a, b]) ∧ Fr [g] w w' := by
  have h0 : w.cell? ⟨g, 0, none⟩ = some (.int .i64 a) := h.at_ (k := 0) (by simp)
  have h1 : w.cell? ⟨g, 1, none⟩ = some (.int .i64 b) := h.at_ (k := 1) (by simp)
  have hgw : g < w.heap.size := World.block_lt_of_cell? w _ h0
  have hcc : 2 ≤ c ∧ c ≤ 9223372036854775807 := by
    obtain ⟨_, ⟨_, h2, _⟩ | ⟨_, _, h3, h4⟩⟩ := ownsRow_cases (World.ownsRow.mono h (Nat.zero_le _))
    · omega
    · exact ⟨h3, h4⟩
  obtain ⟨hc2, hc63⟩ := hcc
  by_cases hab : a = b
  · subst hab
    obtain ⟨cur, hgc, hcs, hct⟩ : ∃ cur : List Value, w.heap[g]? = some (.cells cur.toArray 3 (0, 0)) ∧ cur.length = c ∧ cur.take 2 = [.int .i64 a, .int .i64 a] := by
      rcases h.2 with ⟨h0, _⟩ | ⟨g', cap, cur, h0, _, hg, _, _, hsz, htk⟩
      · cases h0
      · injection h0 with e1 e2 e3
        injection e1 with e1
        injection e1 with e1
        subst e1 e3
        exact ⟨cur.toList, hg, by simpa using hsz, by simpa using htk⟩
    have hbase := (h.lt g rfl).1
    have HGC := Lib.hid hgc
    have HCT := Lib.hid hct
    have HCS := Lib.hid hcs
    clear hgc hcs hct
    go_enter Tryz.func112, Tryz.ntmps112
    go_wp2_with fail
    go_loopw [3] (fun i wr => i = .int .i64 1 ∧ wr = w) (fun _ _ => 0)
    case atStart => exact ⟨rfl, rfl⟩
    case round =>
      obtain ⟨rfl, rfl⟩ := hrel
      go_wp2_with fail
      go_region
      all_goals
        go_wp2_with fail
        go_loopw [3, 5] (fun k i w2 => k = .int .i64 1 ∧ i = .int .i64 1 ∧ Fr [] wr w2) (fun _ _ _ => 0)
        case atStart => exact ⟨rfl, rfl, Fr.drewN (Fr.refl _ _) _⟩
        case round =>
          obtain ⟨rfl, rfl, hf⟩ := hrel
          have HG2 := Lib.hid ((hf.block g hgw (by simp)).trans HGC.out)
          go_wp2_with (refine wpList_clearS rfl (.tmp 56) 35 rfl 3 (.int .i64 0) [.int .i64 0] Tryz.underlying35 Tryz.zeroIntV rfl g 1 1 (c - 1) (by omega) rfl _ HG2.out (by have := HCS.out; simp [zerosL, Builtin.zeroCells]; omega) (by intro v hv; simp [zerosL, Builtin.zeroCells] at hv; subst hv; rfl) ?_)
          intro w3 HW3
          have hA := setRow_at HG2.out HW3.out
          have HG3 := Lib.hid hA.1
          have hF3 := hA.2
          clear hA HW3
          go_wp2_with fail
          go_ret
          refine ⟨_, rfl, ?_, (hf.more (by simp)).trans hF3⟩
          refine ⟨rfl, Or.inr ⟨g, c, _, rfl, hbase, HG3.out, by simp; omega, by unfold maxLen; omega, ?_, ?_⟩⟩
          · have := HCS.out; simp [zerosL, Builtin.zeroCells]; rw [length_splice _ _ _ (by simp; omega)]; exact this
          · have h1 := HCT.out
            have h2 := HCS.out
            rw [List.toList_toArray, show ([a] : List Int).length * 1 = 1 from rfl, splice_take _ _ _ _ (Nat.le_refl _) (by omega)]
            have := congrArg (List.take 1) h1
            simpa [List.take_take] using this
  · have hd : (b == a) = false := by simpa using fun e => hab e.symm
    have hd' : (a == b) = false := by simpa using hab
    rw [if_neg hab]
    have HR := Lib.hid h
    clear h
    go_enter Tryz.func112, Tryz.ntmps112
    go_wp2_with fail
    go_loopw [3] (fun i wr => (i = .int .i64 1 ∨ i = .int .i64 2) ∧ Fr [] w wr) (fun i _ => 2 - (intOf i).toNat)
    case atStart => exact ⟨Or.inl rfl, Fr.refl _ _⟩
    case round =>
      obtain ⟨hi, hf⟩ := hrel
      have h0 := (World.cell?_of_block (a := ⟨g, 0, none⟩) (hf.block g hgw (by simp))).trans h0
      have h1 := (World.cell?_of_block (a := ⟨g, 1, none⟩) (hf.block g hgw (by simp))).trans h1
      rcases hi with rfl | rfl
      · go_wp2_with fail
        go_region
        all_goals
          go_wp2_with fail
          go_roundw
          case rel => exact ⟨Or.inr rfl, hf.drewN _⟩
          case measure => simp [intOf]
      · go_wp2_with fail
        go_ret
        exact ⟨_, rfl, ownsRow_keep0 HR.out (fun k hk => hf.block k (by have := (HR.out.lt k hk).2; omega) (by simp)), hf.more (by simp)⟩
theorem nextF_10 {n p : Int} : nextF (10, n) p = [n] := rfl
theorem nextF_11a {n p : Int} (h : p + 1 < n) : nextF (11, n) p = [p + 1, n] := by unfold nextF; simp [h]
theorem nextF_11b {n p : Int} (h : n = p + 1) : nextF (11, n) p = [p + 1] := by unfold nextF; subst h; simp
theorem nextF_11c {n p : Int} (h : n < p + 1) : nextF (11, n) p = [n, p + 1] := by
  unfold nextF
  have h1 : ¬ p + 1 < n := by omega
  have h2 : ¬ n = p + 1 := by omega
  simp [h1, h2]
theorem nextF_none {o n p : Int} (h : o = 13 ∨ o = 14 ∨ o = 16 ∨ o = 18) : nextF (o, n) p = [] := by
  unfold nextF
  rw [if_neg (by simp only; omega), if_neg (by simp only; omega), if_pos h]
theorem nextF_one {o n p : Int} (h : ¬ o = 10) (h1 : ¬ o = 11) (h2 : ¬ (o = 13 ∨ o = 14 ∨ o = 16 ∨ o = 18)) : nextF (o, n) p = [p + 1] := by
  unfold nextF
  rw [if_neg h, if_neg h1, if_neg h2]
theorem nextF_two (n p : Int) : nextF (11, n) p = (if (if p + 1 ≤ n then p + 1 else n) = (if p + 1 ≤ n then n else p + 1) then [if p + 1 ≤ n then p + 1 else n] else [if p + 1 ≤ n then p + 1 else n, if p + 1 ≤ n then n else p + 1]) := by
  by_cases h1 : p + 1 < n
  · have e : p + 1 ≤ n := by omega
    rw [nextF_11a h1]; simp only [if_pos e]; rw [if_neg (by omega)]
  · by_cases h2 : n = p + 1
    · have e : p + 1 ≤ n := by omega
      rw [nextF_11b h2]; simp only [if_pos e]; rw [if_pos h2.symm]
    · have e : ¬ p + 1 ≤ n := by omega
      rw [nextF_11c (by omega)]; simp only [if_neg e]; rw [if_neg (by omega)]
set_option maxHeartbeats 4000000 in
theorem implNextOf (w : World) (o n p : Int) (hn : I64 n) (hp : 0 ≤ p ∧ p ≤ 1048576) :
    Calls Tryz.prog 98 #[.agg #[.int .i64 o, .int .i64 n], .int .i64 p] w (RetInts (nextF (o, n) p) w) := by
  obtain ⟨hp0, hp1⟩ := hp
  have q1 : IntKind.i64.wrap (p + 1) = p + 1 := IntWalk.i64_in _ (by omega)
  by_cases h10 : o = 10
  · subst h10
    go_enter Tryz.func98, Tryz.ntmps98
    go_wp2_with fail
    go_ret
    exact ⟨_, rfl, IntRow.new1 (by simp) (by simp) n, by exact belA⟩
  by_cases h11 : o = 11
  · subst h11
    have hd : ((11 : Int) == 10) = false := rfl
    go_enter Tryz.func98, Tryz.ntmps98
    go_wp2_with fail
    have hr := IntRow.new2 (w := w.alloc (.cells #[.int .i64 11, .int .i64 n] 67)) (g := w.heap.size + 1) (base := w.heap.size) (by simp) (by omega) (p + 1) n
    refine (sortRow _ w.heap.size (w.heap.size + 1) 2 2 [p + 1, n] hr (by omega)).mono ?_
    rintro e w2 ⟨rfl, hr2, hf2⟩
    have hb2 : Below w.heap.size w w2 := below_fr (show Below w.heap.size w _ by exact belA) hf2 (fun i hi => by simp at hi; omega)
    clear hr hf2
    rw [sort_two] at hr2
    obtain ⟨a, b, hab⟩ : ∃ a b, (if p + 1 ≤ n then [p + 1, n] else [n, p + 1]) = [a, b] ∧ nextF (11, n) p = (if a = b then [a] else [a, b]) := by
      by_cases h : p + 1 ≤ n
      · exact ⟨p + 1, n, by rw [if_pos h], by rw [nextF_two]; simp only [if_pos h]⟩
      · exact ⟨n, p + 1, by rw [if_neg h], by rw [nextF_two]; simp only [if_neg h]⟩
    obtain ⟨hab, hnx⟩ := hab
    rw [hab] at hr2
    have HN := Lib.hid hnx
    clear hab hnx
    go_wp2_with fail
    refine (compact2 w2 w.heap.size (w.heap.size + 1) 2 a b hr2).mono ?_
    rintro e w3 ⟨v, rfl, hr3, hf3⟩
    obtain ⟨A, m, c, rfl, hm⟩ := hr3.form
    clear hm
    go_wp2_with fail
    go_ret
    exact ⟨_, rfl, by rw [HN.out]; exact hr3, below_fr hb2 hf3 (fun i hi => by simp at hi; omega)⟩
  by_cases h13 : o = 13 ∨ o = 14 ∨ o = 16 ∨ o = 18
  · have hN := Lib.hid (nextF_none (n := n) (p := p) h13)
    rcases h13 with rfl | rfl | rfl | rfl
    all_goals
      go_enter Tryz.func98, Tryz.ntmps98
      go_wp2_with fail
      go_ret
      exact ⟨_, rfl, by rw [hN.out]; exact IntRow.nil_ _ _, by exact belA⟩
  · have hN := Lib.hid (nextF_one (n := n) (p := p) h10 h11 h13)
    have d1 : (o == 10) = false := by simpa using h10
    have d2 : (o == 11) = false := by simpa using h11
    have d3 : (o == 13) = false := by simp; omega
    have d4 : (o == 14) = false := by simp; omega
    have d5 : (o == 16) = false := by simp; omega
    have d6 : (o == 18) = false := by simp; omega
    clear h10 h11 h13
    go_enter Tryz.func98, Tryz.ntmps98
    go_wp2_with fail
    go_ret
    exact ⟨_, rfl, by rw [hN.out]; exact IntRow.new1 (by simp) (by simp) _, by exact belA⟩
def put1 (a n : Int) : List Int := if a < n then [a, n] else if a = n then [a] else [n, a]
set_option maxHeartbeats 4000000 in
theorem specL1Put1 (w : World) (g c : Nat) (a n : Int) (h : IntRow w g (.slice (some ⟨g, 0, none⟩) 1 c) [a]) (ha : I64 a) :
    Calls Tryz.prog 106 #[.slice (some ⟨g, 0, none⟩) 1 c, .int .i64 n] w fun e w' => ∃ v, e = .returned v ∧ IntRow w' g v (put1 a n) ∧ Below w.heap.size w w' := by
  have h0 : w.cell? ⟨g, 0, none⟩ = some (.int .i64 a) := h.at_ (k := 0) (by simp)
  have hgw : g < w.heap.size := World.block_lt_of_cell? w _ h0
  have hsl := h.sl (by simpa using ha)
  obtain ⟨inf, hif, hz0, hz1, hz2⟩ := info_parts Tryz.infoInt
  have HIF := Lib.hid hif
  have HZ0 := Lib.hid hz0
  have HZ1 := Lib.hid hz1
  have HZ2 := Lib.hid hz2
  have HSL := Lib.hid hsl
  have HR := Lib.hid h
  have hcc : 1 ≤ c := hsl.2.1
  clear hif hz0 hz1 hz2 hsl h
  by_cases h1 : a < n
  · have hp := Lib.hid (show put1 a n = [a, n] from if_pos h1)
    have hd : (a == n) = false := by simp; omega
    go_enter Tryz.func106, Tryz.ntmps106
    go_wp2_with fail
    go_loopw [5] (fun i wr => (i = .int .i64 0 ∨ i = .int .i64 1) ∧ wr = w) (fun i _ => 1 - (intOf i).toNat)
    case atStart => exact ⟨Or.inl rfl, rfl⟩
    case round =>
      obtain ⟨hi, rfl⟩ := hrel
      rcases hi with rfl | rfl
      · go_wp2_with fail
        go_roundw
        case rel => exact ⟨Or.inr rfl, trivial⟩
        case measure => simp [intOf]
      · go_wp2_with (at_builtin; refine wpList_append_src _ rfl _ _ 35 rfl g 3 inf (.int .i64 0) 1 8 Tryz.underlying35 HIF.out HZ0.out HZ1.out HZ2.out rfl (by decide) (.slice (some ⟨wr.heap.size, 0, none⟩) 0 0) 0 [] rfl (World.ownsRow_made wr #[] 0 (by omega) (by decide) (by simp)) (some ⟨g, 0, none⟩) 1 c ([a].map (Value.int .i64)) rfl (src_ints ((HSL.out.cut 1 (by omega)).below (show Below wr.heap.size wr _ by exact belA) (Nat.le_refl _))) (ints_oneCell _) (by unfold maxLen; omega) (by omega) (by simp; omega) ?_)
        intro v1 w1 ho1 hg1 hat1
        have ho1 : IntRow w1 g v1 [a] := ho1
        have hb1 : Below wr.heap.size wr w1 := (show Below wr.heap.size wr (wr.alloc (.cells #[] 3)) by exact belA).grown hg1 (by simp) (fun g hg => by simp [Value.ownBlock] at hg; omega)
        have hz1 := hb1.size
        have hB1 : ∀ g', v1.ownBlock = some g' → wr.heap.size ≤ g' := fun g' hg' => by rcases hat1 with e | e; (rw [e] at hg'; simp [Value.ownBlock] at hg'; omega); (rw [e] at hg'; injection hg' with hg'; first | omega | (rw [← hg']; simp; done) | (rw [← hg']; simp; omega))
        clear hg1 hat1
        go_wp2_with (at_builtin; refine wpList_append_own_at _ rfl _ _ 35 rfl g 3 inf (.int .i64 0) 1 8 Tryz.underlying35 HIF.out HZ0.out HZ1.out HZ2.out rfl (by decide) v1 1 ([a].map (Value.int .i64)) rfl (ownsRow_below ho1 (show Below w1.heap.size w1 _ by exact belA)) ⟨w1.heap.size, 0, none⟩ 1 1 [.int .i64 n] rfl rfl (cell_new1 _ _ _ (by simp)) (by intro u hu; simp at hu; subst hu; rfl) (by unfold maxLen; omega) (by omega) (by simp; omega) ?_)
        intro v2 w2 ho2 hg2 _ hat2
        have ho2 : IntRow w2 g v2 ([a] ++ [n]) := ho2
        have hb2 : Below wr.heap.size wr w2 := (below_then hb1 (show Below w1.heap.size w1 (w1.alloc (.cells #[.int .i64 n] 3)) by exact belA)).grown hg2 (by simp; omega) (fun g' hg => hB1 g' hg)
        have hz2 := hb2.size
        have hB2 : ∀ g', v2.ownBlock = some g' → wr.heap.size ≤ g' := fun g' hg' => by rcases hat2 with e | e; (rw [e] at hg'; exact hB1 g' hg'); (rw [e] at hg'; injection hg' with hg'; first | omega | (rw [← hg']; simp; done) | (rw [← hg']; simp; omega))
        have hs2 := HSL.out.below hb2 (Nat.le_refl _)
        clear hg2 hat2 hb1 hz1 ho1 hB1
        by_cases hc3 : c = 1
        all_goals
          go_wp2_with (at_builtin; refine wpList_append_src _ rfl _ _ 35 rfl g 3 inf (.int .i64 0) 1 8 Tryz.underlying35 HIF.out HZ0.out HZ1.out HZ2.out rfl (by decide) v2 2 (([a] ++ [n]).map (Value.int .i64)) rfl ho2 _ 0 _ (([] : List Int).map (Value.int .i64)) rfl (src_ints (hs2.from_ 1 (by omega) (by first | (intro hx; omega) | (intro _; rfl)))) (ints_oneCell _) (by unfold maxLen; omega) (by omega) (by omega) ?_)
          intro v3 w3 ho3 hg3 hat3
          have ho3 : IntRow w3 g v3 [a, n] := ho3
          have hb3 : Below wr.heap.size wr w3 := hb2.grown hg3 hz2 (fun g' hg => hB2 g' hg)
          obtain ⟨A3, n3, c3, rfl, hn3⟩ := ho3.form
          clear hg3 hat3 hn3
          go_wp2_with fail
          go_ret
          exact ⟨_, rfl, by rw [hp.out]; exact ho3, hb3⟩
  · by_cases h2 : a = n
    · subst h2
      have hp := Lib.hid (show put1 a a = [a] by unfold put1; simp)
      go_enter Tryz.func106, Tryz.ntmps106
      go_wp2_with fail
      go_loopw [5] (fun i wr => i = .int .i64 0 ∧ wr = w) (fun i _ => 0)
      case atStart => exact ⟨rfl, rfl⟩
      case round =>
        obtain ⟨rfl, rfl⟩ := hrel
        go_wp2_with fail
        go_ret
        exact ⟨_, rfl, by rw [hp.out]; exact HR.out, by exact belA⟩
    · have hp := Lib.hid (show put1 a n = [n, a] by unfold put1; rw [if_neg h1, if_neg h2])
      have hd : (a == n) = false := by simpa using h2
      go_enter Tryz.func106, Tryz.ntmps106
      go_wp2_with fail
      go_loopw [5] (fun i wr => i = .int .i64 0 ∧ wr = w) (fun i _ => 0)
      case atStart => exact ⟨rfl, rfl⟩
      case round =>
        obtain ⟨rfl, rfl⟩ := hrel
        go_wp2_with (at_builtin; refine wpList_append_src _ rfl _ _ 35 rfl g 3 inf (.int .i64 0) 1 8 Tryz.underlying35 HIF.out HZ0.out HZ1.out HZ2.out rfl (by decide) (.slice (some ⟨wr.heap.size, 0, none⟩) 0 0) 0 [] rfl (World.ownsRow_made wr #[] 0 (by omega) (by decide) (by simp)) (some ⟨g, 0, none⟩) 0 c (([] : List Int).map (Value.int .i64)) rfl (src_ints ((HSL.out.cut 0 (by omega)).below (show Below wr.heap.size wr _ by exact belA) (Nat.le_refl _))) (ints_oneCell _) (by unfold maxLen; omega) (by omega) (by simp; omega) ?_)
        intro v1 w1 ho1 hg1 hat1
        have ho1 : IntRow w1 g v1 ([] : List Int) := ho1
        have hb1 : Below wr.heap.size wr w1 := (show Below wr.heap.size wr (wr.alloc (.cells #[] 3)) by exact belA).grown hg1 (by simp) (fun g hg => by simp [Value.ownBlock] at hg; omega)
        have hz1 := hb1.size
        have hB1 : ∀ g', v1.ownBlock = some g' → wr.heap.size ≤ g' := fun g' hg' => by rcases hat1 with e | e; (rw [e] at hg'; simp [Value.ownBlock] at hg'; omega); (rw [e] at hg'; injection hg' with hg'; first | omega | (rw [← hg']; simp; done) | (rw [← hg']; simp; omega))
        clear hg1 hat1
        go_wp2_with (at_builtin; refine wpList_append_own_at _ rfl _ _ 35 rfl g 3 inf (.int .i64 0) 1 8 Tryz.underlying35 HIF.out HZ0.out HZ1.out HZ2.out rfl (by decide) v1 0 (([] : List Int).map (Value.int .i64)) rfl (ownsRow_below ho1 (show Below w1.heap.size w1 _ by exact belA)) ⟨w1.heap.size, 0, none⟩ 1 1 [.int .i64 n] rfl rfl (cell_new1 _ _ _ (by simp)) (by intro u hu; simp at hu; subst hu; rfl) (by unfold maxLen; omega) (by omega) (by simp; omega) ?_)
        intro v2 w2 ho2 hg2 _ hat2
        have ho2 : IntRow w2 g v2 (([] : List Int) ++ [n]) := ho2
        have hb2 : Below wr.heap.size wr w2 := (below_then hb1 (show Below w1.heap.size w1 (w1.alloc (.cells #[.int .i64 n] 3)) by exact belA)).grown hg2 (by simp; omega) (fun g' hg => hB1 g' hg)
        have hz2 := hb2.size
        have hB2 : ∀ g', v2.ownBlock = some g' → wr.heap.size ≤ g' := fun g' hg' => by rcases hat2 with e | e; (rw [e] at hg'; exact hB1 g' hg'); (rw [e] at hg'; injection hg' with hg'; first | omega | (rw [← hg']; simp; done) | (rw [← hg']; simp; omega))
        have hs2 := HSL.out.below hb2 (Nat.le_refl _)
        clear hg2 hat2 hb1 hz1 ho1 hB1
        go_wp2_with (at_builtin; refine wpList_append_src _ rfl _ _ 35 rfl g 3 inf (.int .i64 0) 1 8 Tryz.underlying35 HIF.out HZ0.out HZ1.out HZ2.out rfl (by decide) v2 1 ((([] : List Int) ++ [n]).map (Value.int .i64)) rfl ho2 _ 1 _ ([a].map (Value.int .i64)) rfl (src_ints (hs2.from_ 0 (by omega) (by first | (intro hx; omega) | (intro _; rfl)))) (ints_oneCell _) (by unfold maxLen; omega) (by omega) (by omega) ?_)
        intro v3 w3 ho3 hg3 hat3
        have ho3 : IntRow w3 g v3 [n, a] := ho3
        have hb3 : Below wr.heap.size wr w3 := hb2.grown hg3 hz2 (fun g' hg => hB2 g' hg)
        obtain ⟨A3, n3, c3, rfl, hn3⟩ := ho3.form
        clear hg3 hat3 hn3
        go_wp2_with fail
        go_ret
        exact ⟨_, rfl, by rw [hp.out]; exact ho3, hb3⟩
theorem nextF_put (n p : Int) : nextF (11, n) p = put1 (p + 1) n := by
  unfold put1
  by_cases h1 : p + 1 < n
  · rw [nextF_11a h1, if_pos h1]
  · by_cases h2 : n = p + 1
    · rw [nextF_11b h2, if_neg h1, if_pos h2.symm]
    · rw [nextF_11c (by omega), if_neg h1, if_neg (by omega)]
set_option maxHeartbeats 4000000 in
theorem specL5Next (w : World) (o n p : Int) (hn : I64 n) (hp : 0 ≤ p ∧ p ≤ 1048576) :
    Calls Tryz.prog 82 #[.agg #[.int .i64 o, .int .i64 n], .int .i64 p] w (RetInts (nextF (o, n) p) w) := by
  obtain ⟨hp0, hp1⟩ := hp
  have q1 : IntKind.i64.wrap (p + 1) = p + 1 := IntWalk.i64_in _ (by omega)
  by_cases h10 : o = 10
  · subst h10
    go_enter Tryz.func82, Tryz.ntmps82
    go_wp2_with fail
    go_ret
    exact ⟨_, rfl, IntRow.new1 (by simp) (by simp) n, by exact belA⟩
  by_cases h11 : o = 11
  · subst h11
    have hd : ((11 : Int) == 10) = false := rfl
    go_enter Tryz.func82, Tryz.ntmps82
    go_wp2_with fail
    have hr := IntRow.new1 (w := w.alloc (.cells #[.int .i64 11, .int .i64 n] 67)) (g := w.heap.size + 1) (base := w.heap.size + 1) (by simp) (Nat.le_refl _) (p + 1)
    refine (specL1Put1 _ (w.heap.size + 1) 1 (p + 1) n hr (by unfold I64; omega)).mono ?_
    rintro e w2 ⟨v, rfl, hr2, hb2⟩
    obtain ⟨A, m, c, rfl, hm⟩ := hr2.form
    clear hm hr
    go_wp2_with fail
    go_ret
    exact ⟨_, rfl, by rw [nextF_put]; exact hr2.mono (Nat.le_succ _), by exact belA⟩
  by_cases h13 : o = 13 ∨ o = 14 ∨ o = 16 ∨ o = 18
  · have hN := Lib.hid (nextF_none (n := n) (p := p) h13)
    rcases h13 with rfl | rfl | rfl | rfl
    all_goals
      go_enter Tryz.func82, Tryz.ntmps82
      go_wp2_with fail
      go_ret
      exact ⟨_, rfl, by rw [hN.out]; exact IntRow.nil_ _ _, by exact belA⟩
  · have hN := Lib.hid (nextF_one (n := n) (p := p) h10 h11 h13)
    have d1 : (o == 10) = false := by simpa using h10
    have d2 : (o == 11) = false := by simpa using h11
    have d3 : (o == 13) = false := by simp; omega
    have d4 : (o == 14) = false := by simp; omega
    have d5 : (o == 16) = false := by simp; omega
    have d6 : (o == 18) = false := by simp; omega
    clear h10 h11 h13
    go_enter Tryz.func82, Tryz.ntmps82
    go_wp2_with fail
    go_ret
    exact ⟨_, rfl, by rw [hN.out]; exact IntRow.new1 (by simp) (by simp) _, by exact belA⟩
end Go.Proofs.YtgoinmdnpaknpaaGreat
