/- Several texts in one: Expr, AllI, High, Rising. -/
import Derived.Test.YtgoinmdnpaknpaaTyPg
import Derived.Test.YtgoinmdnpaknpaaKit1

/- Expressions: tokens, what they need, how high the pile is. Walks of both sides. -/
set_option linter.unusedVariables false
set_option linter.unusedSimpArgs false
set_option maxRecDepth 100000
namespace Go.Proofs.Ytgoinmdnpaknpaa
open Go.RowKit

def small (n : Int) : Bool := inB n (-2147483648) 2147483647
theorem small_wrap (n : Int) (h : I64 n) : (n == wrap64 (wrap32 n)) = small n := by
  obtain ⟨h1, h2⟩ := h
  by_cases hs : -2147483648 ≤ n ∧ n ≤ 2147483647
  · rw [small, inB_true hs]
    have : wrap64 (wrap32 n) = n := by unfold wrap64 wrap32; omega
    rw [this]; simp
  · rw [small, inB_false hs]
    simp; unfold wrap64 wrap32; omega
theorem implIsSmall (w : World) (n : Int) (h : I64 n) : Calls Try.prog 59 #[.int .i64 n] w (RetB (small n) w) := by
  have hq := Lib.hid (small_wrap n h)
  go_enter Try.func59, Try.ntmps59
  go_wp2
  go_ret
  exact RetB.mk hq.out (by exact belA)
theorem specL2Bound (w : World) (n : Int) : Calls Try.prog 145 #[.int .i64 n] w (RetB (small n) w) := by
  go_enter Try.func145, Try.ntmps145
  go_wp2_with (go_at_call 44; refine (specL1In _ _ _ _).mono ?_; rintro e w2 ⟨rfl, rfl⟩)
  go_ret
  exact RetB.mk rfl (by exact belA)

/-- Whether a token is one. -/
def tokB (t : Tok) (vars funcs : Int) : Bool :=
  if t.1 = 1 then small t.2 else if t.1 = 2 then inB t.2 0 (vars - 1) else if t.1 = 11 then inB t.2 0 (funcs - 1) else inB t.1 3 10 && t.2 == 0
theorem implIsTok (w : World) (x y v f : Int) (iy : I64 y) (hv : 0 ≤ v ∧ v ≤ 1000) (hf : 0 ≤ f ∧ f ≤ 1000) : Calls Try.prog 124 #[.agg #[.int .i64 x, .int .i64 y], .int .i64 v, .int .i64 f] w (RetB (tokB (x, y) v f) w) := by
  obtain ⟨v1, v2⟩ := hv
  obtain ⟨f1, f2⟩ := hf
  go_enter Try.func124, Try.ntmps124
  go_wp2_with (first
    | (go_at_call 59; ((with_reducible refine (implIsSmall _ _ iy).mono ?_); rintro e w2 ⟨rfl, hb⟩))
    | (go_at_call 45; ((with_reducible refine (implWithin _ _ _ _).mono ?_); rintro e w2 ⟨rfl, rfl⟩)))
  all_goals
    go_ret
    exact RetB.mk (by simp_all [tokB]) (by exact belA)
def tokS (t : Tok) : Bool := if t.1 = 1 then small t.2 else if t.1 = 2 ∨ t.1 = 11 then inB t.2 0 99 else inB t.1 3 10 && t.2 == 0
theorem specL2Token (w : World) (x y : Int) : Calls Try.prog 144 #[.agg #[.int .i64 x, .int .i64 y]] w (RetB (tokS (x, y)) w) := by
  go_enter Try.func144, Try.ntmps144
  go_wp2_with (first
    | (go_at_call 145; ((with_reducible refine (specL2Bound _ _).mono ?_); rintro e w2 ⟨rfl, hb⟩))
    | (go_at_call 44; ((with_reducible refine (specL1In _ _ _ _).mono ?_); rintro e w2 ⟨rfl, rfl⟩)))
  all_goals
    go_ret
    exact RetB.mk (by simp_all [tokS]) (by exact belA)
theorem tokS_B (t : Tok) (vars funcs : Int) (hv : vars ≤ 100) (hf : funcs ≤ 100) : (tokS t && (!decide (t.1 = 2) || decide (t.2 < vars)) && (!decide (t.1 = 11) || decide (t.2 < funcs))) = tokB t vars funcs := by
  obtain ⟨x, y⟩ := t
  unfold tokS tokB
  simp only
  by_cases h1 : x = 1
  · subst h1; simp
  by_cases h2 : x = 2
  · subst h2; simp [inB]; rw [Bool.eq_iff_iff]; simp; omega
  by_cases h3 : x = 11
  · subst h3; simp [inB]; rw [Bool.eq_iff_iff]; simp; omega
  simp [h1, h2, h3]
theorem specL2Known (w : World) (x y v : Int) (A : Option Addr) (n c : Nat) (hv : 0 ≤ v ∧ v ≤ 100) (hn : n ≤ 100) : Calls Try.prog 139 #[.agg #[.int .i64 x, .int .i64 y], .int .i64 v, .slice A n c] w (RetB (tokB (x, y) v (n : Int)) w) := by
  obtain ⟨v1, v2⟩ := hv
  have hq := Lib.hid (tokS_B (x, y) v n v2 (by omega))
  go_enter Try.func139, Try.ntmps139
  go_wp2_with (first
    | (go_at_call 144; ((with_reducible refine (specL2Token _ _ _).mono ?_); rintro e w2 ⟨rfl, hb⟩; obtain ⟨hcE, hfE⟩ := bcell hb; have hbz := hb.size)))
  all_goals
    go_ret
    exact RetB.mk (by have hz := hq.out; clear hq; subst_vars; first | (simp_all; done) | (simp_all; rw [← hz]; simp; omega)) (by exact belA)

/-- How many numbers a token takes. -/
def needF (t : Tok) (params : List Int) : Int := if t.1 = 11 then params.getD t.2.toNat 0 else if inB t.1 3 8 = true then 2 else 0
def goodNeeds (params : List Int) : Prop := ∀ p, p ∈ params → 0 ≤ p ∧ p ≤ 2
theorem needF_bd {t : Tok} {params : List Int} (h : goodNeeds params) : 0 ≤ needF t params ∧ needF t params ≤ 2 := by
  unfold needF
  split
  · rcases hp : params[t.2.toNat]? with _ | p
    · simp [List.getD, hp]
    · simp only [List.getD, hp, Option.getD_some]; exact h p (List.mem_of_getElem? hp)
  · split <;> omega
theorem tokB_call {t : Tok} {v f : Int} (h : tokB t v f = true) (h1 : t.1 = 11) : 0 ≤ t.2 ∧ t.2 < f := by
  unfold tokB at h
  rw [if_neg (by omega), if_neg (by omega), if_pos h1, inB_iff] at h
  omega
theorem implIsReckoned (w : World) (n : Int) : Calls Try.prog 135 #[.int .i64 n] w (RetB (inB n 3 8) w) := by
  go_enter Try.func135, Try.ntmps135
  go_wp2_with (go_at_call 45; refine (implWithin _ _ _ _).mono ?_; rintro e w2 ⟨rfl, rfl⟩)
  go_ret
  exact RetB.mk rfl (by exact belA)
theorem implNeeds (w : World) (lo hi : Nat) (x y v : Int) (A : Option Addr) (n c : Nat) (ps : List Int) (h : Sl intR w lo hi A n c ps) (hh : hi ≤ w.heap.size) (ht : tokB (x, y) v (n : Int) = true) :
    Calls Try.prog 125 #[.agg #[.int .i64 x, .int .i64 y], .slice A n c] w (RetV (.int .i64 (needF (x, y) ps)) w) := by
  have e1 := h.lenEq
  by_cases h11 : x = 11
  · subst h11
    obtain ⟨y1, y2⟩ := tokB_call ht rfl
    simp only at y1 y2
    obtain ⟨k, rfl⟩ := Int.eq_ofNat_of_zero_le y1
    have hk : k < n := by omega
    obtain ⟨b, o, rfl, _, _, hc1, _⟩ := h.int_at hk
    have hN := Lib.hid (show needF (11, (k : Int)) ps = ps[k]'(by omega) by simp [needF, List.getD, e1, hk])
    have hbw : b < w.heap.size := World.block_lt_of_cell? w _ hc1
    clear ht
    go_enter Try.func125, Try.ntmps125
    go_wp2
    go_ret
    exact ⟨ret_int hN.out.symm, by exact belA⟩
  · clear ht
    have hd : (x == 11) = false := by simpa using h11
    have hN := Lib.hid (show needF (x, y) ps = if inB x 3 8 = true then 2 else 0 by simp [needF, h11])
    clear h11
    go_enter Try.func125, Try.ntmps125
    go_wp2_with (go_at_call 135; refine (implIsReckoned _ _).mono ?_; rintro e w2 ⟨rfl, hb⟩)
    all_goals
      go_ret
      exact ⟨ret_int (by rw [hN.out]; simp_all), by exact belA⟩
theorem specL2Needs (w : World) (lo hi : Nat) (x y v : Int) (A : Option Addr) (n c : Nat) (ps : List Int) (h : Sl intR w lo hi A n c ps) (hh : hi ≤ w.heap.size) (ht : tokB (x, y) v (n : Int) = true) :
    Calls Try.prog 140 #[.agg #[.int .i64 x, .int .i64 y], .slice A n c] w (RetV (.int .i64 (needF (x, y) ps)) w) := by
  have e1 := h.lenEq
  by_cases h11 : x = 11
  · subst h11
    obtain ⟨y1, y2⟩ := tokB_call ht rfl
    simp only at y1 y2
    obtain ⟨k, rfl⟩ := Int.eq_ofNat_of_zero_le y1
    have hk : k < n := by omega
    obtain ⟨b, o, rfl, _, _, hc1, _⟩ := h.int_at hk
    have hN := Lib.hid (show needF (11, (k : Int)) ps = ps[k]'(by omega) by simp [needF, List.getD, e1, hk])
    have hbw : b < w.heap.size := World.block_lt_of_cell? w _ hc1
    have hI : inB 11 3 8 = false := by decide
    clear ht
    go_enter Try.func140, Try.ntmps140
    go_wp2_with (go_at_call 44; refine (specL1In _ _ _ _).mono ?_; rintro e w2 ⟨rfl, rfl⟩)
    go_ret
    exact ⟨ret_int hN.out.symm, by exact belA⟩
  · clear ht
    have hd : (x == 11) = false := by simpa using h11
    have hN := Lib.hid (show needF (x, y) ps = if inB x 3 8 = true then 2 else 0 by simp [needF, h11])
    clear h11
    go_enter Try.func140, Try.ntmps140
    go_wp2_with (go_at_call 44; refine (specL1In _ _ _ _).mono ?_; rintro e w2 ⟨rfl, rfl⟩)
    all_goals
      go_ret
      exact ⟨ret_int (by rw [hN.out]; simp_all), by exact belA⟩
theorem specL1Most (w : World) (a b : Int) : Calls Try.prog 141 #[.int .i64 a, .int .i64 b] w (RetV (.int .i64 (max a b)) w) := by
  go_enter Try.func141, Try.ntmps141
  go_wp2
  all_goals
    go_ret
    exact ⟨ret_int (by omega), by exact belA⟩
/-- One token more: how many at most, how many there are. -/
def stepH (vars : Int) (ps : List Int) (st : Option (Int × Int)) (t : Tok) : Option (Int × Int) :=
  match st with
  | none => none
  | some (h, c) => if tokB t vars ps.length = true ∧ ¬ c < needF t ps then some (max h (c + (1 - needF t ps)), c + (1 - needF t ps)) else none
def foldH (vars : Int) (ps : List Int) (e : List Tok) : Option (Int × Int) := e.foldl (stepH vars ps) (some (0, 0))
theorem foldH_none {vars : Int} {ps : List Int} : ∀ (e : List Tok), e.foldl (stepH vars ps) none = none
  | [] => rfl
  | t :: e => by rw [List.foldl_cons]; exact foldH_none e
theorem foldH_succ {vars : Int} {ps : List Int} {e : List Tok} {k : Nat} (hk : k < e.length) : foldH vars ps (e.take (k + 1)) = stepH vars ps (foldH vars ps (e.take k)) e[k] := by
  unfold foldH; rw [List.take_succ_eq_append_getElem hk, List.foldl_append]; rfl
theorem foldH_dead {vars : Int} {ps : List Int} {e : List Tok} {k : Nat} (h : foldH vars ps (e.take k) = none) : foldH vars ps e = none := by
  unfold foldH at *
  rw [← List.take_append_drop k e, List.foldl_append, h]; exact foldH_none _
/-- How many numbers are on the pile at most, 0 where the expression is not good. -/
def highF (e : List Tok) (vars : Int) (ps : List Int) : Int := if 1 ≤ e.length ∧ e.length ≤ 12 then match foldH vars ps e with | some (h, c) => if c = 1 then h else 0 | none => 0 else 0
theorem highF_dead {e : List Tok} {vars : Int} {ps : List Int} {k : Nat} (h : foldH vars ps (e.take k) = none) : highF e vars ps = 0 := by
  unfold highF; rw [foldH_dead h]; simp
theorem highF_end {e : List Tok} {vars : Int} {ps : List Int} {h c : Int} (hf : foldH vars ps e = some (h, c)) (hl : 1 ≤ e.length ∧ e.length ≤ 12) : highF e vars ps = if c = 1 then h else 0 := by
  unfold highF; rw [if_pos hl, hf]
end Go.Proofs.Ytgoinmdnpaknpaa

/- Whether all of a list lie within bounds: walk of the reference. -/
set_option linter.unusedVariables false
set_option linter.unusedSimpArgs false
set_option maxRecDepth 100000
namespace Go.Proofs.Ytgoinmdnpaknpaa
open Go.RowKit
theorem specL1All (w : World) (lo hi n c : Nat) (A : Option Addr) (l : List Int) (a b : Int) (h : Sl intR w lo hi A n c l) (hh : hi ≤ w.heap.size) :
    Calls Try.prog 53 #[.slice A n c, .int .i64 a, .int .i64 b] w (RetB (l.all fun x => inB x a b) w) := by
  have e1 := h.lenEq
  have b1 := h.lenLe
  go_enter Try.func53, Try.ntmps53
  go_wp2_with fail
  go_loopw [11] (fun i wr => ∃ k : Nat, k ≤ n ∧ i = .int .i64 k ∧ ((l.take k).all fun x => inB x a b) = true ∧ Below w.heap.size w wr) (fun i _ => n - (intOf i).toNat)
  case atStart => exact ⟨0, Nat.zero_le _, rfl, rfl, Below.refl _ _⟩
  case round =>
    obtain ⟨k, hk, rfl, ht0, hb⟩ := hrel
    have ht := Lib.hid ht0
    clear ht0
    by_cases hlt : k < n
    · obtain ⟨b', o, rfl, _, _, hc1, _⟩ := (h.below hb hh).int_at hlt
      generalize hl0 : l[k]'(by omega) = x at hc1
      have hok := Lib.hid (fun (hp : inB x a b = true) => all_take_succ (p := fun x => inB x a b) ht.out (by omega) (by rw [hl0]; exact hp))
      have hno := Lib.hid (fun (hp : inB x a b = false) => all_false (p := fun x => inB x a b) (l := l) (k := k) (by omega) (by rw [hl0]; exact hp))
      clear hl0
      go_wp2_with (go_at_call 44; refine (specL1In _ _ _ _).mono ?_; rintro e w2 ⟨rfl, rfl⟩)
      all_goals first
        | (go_roundw
           case rel => exact ⟨k + 1, by omega, by go_num, hok.out (by simp_all), by exact belA⟩
           case measure => simp [intOf]; omega)
        | (go_ret
           exact RetB.mk (by rw [hno.out (by simp_all)]) (by exact belA))
    · go_wp2
      go_ret
      exact RetB.mk (by rw [List.take_of_length_le (by omega)] at ht; rw [ht.out]) hb
end Go.Proofs.Ytgoinmdnpaknpaa

/- How high the pile of an expression is at most: walks of both sides. -/
set_option linter.unusedVariables false
set_option linter.unusedSimpArgs false
set_option maxRecDepth 100000
namespace Go.Proofs.Ytgoinmdnpaknpaa
open Go.RowKit

theorem stepH_no1 {vars : Int} {ps : List Int} {h c : Int} {t : Tok} (ht : tokB t vars ps.length = false) : stepH vars ps (some (h, c)) t = none := by simp [stepH, ht]
theorem stepH_no2 {vars : Int} {ps : List Int} {h c : Int} {t : Tok} (hn : c < needF t ps) : stepH vars ps (some (h, c)) t = none := by simp [stepH, hn]
theorem stepH_yes {vars : Int} {ps : List Int} {h c : Int} {t : Tok} (ht : tokB t vars ps.length = true) (hn : ¬ c < needF t ps) : stepH vars ps (some (h, c)) t = some (max h (c + (1 - needF t ps)), c + (1 - needF t ps)) := by simp [stepH, ht, hn]

set_option maxHeartbeats 2000000 in
theorem implHighOf (w : World) (lo hi lo' hi' : Nat) (n c n' c' : Nat) (A A' : Option Addr) (l : List Tok) (v : Int) (ps : List Int) (h : Sl TokR w lo hi A n c l) (h' : Sl intR w lo' hi' A' n' c' ps) (hh : hi ≤ w.heap.size) (hh' : hi' ≤ w.heap.size)
    (hv : 0 ≤ v ∧ v ≤ 100) (hp : goodNeeds ps) (hn' : n' ≤ 100) :
    Calls Try.prog 111 #[.slice A n c, .int .i64 v, .slice A' n' c'] w (RetV (.int .i64 (highF l v ps)) w) := by
  have e1 := h.lenEq
  have e2 := h'.lenEq
  have b1 := h.lenLe
  have HP := Lib.hid hp
  clear hp
  by_cases hg : inB (n : Int) 1 12 = true
  · have hg1 := inB_iff.1 hg
    have gl : 1 ≤ l.length ∧ l.length ≤ 12 := by omega
    have n1 : n ≤ 12 := by omega
    clear hg1
    go_enter Try.func111, Try.ntmps111
    go_wp2_with (go_at_call 45; ((with_reducible refine (implWithin _ _ _ _).mono ?_); rintro e w2 ⟨rfl, rfl⟩))
    go_loopw [7, 8, 17] (fun hs cs i wr => ∃ (k : Nat) (hi' cc : Int), k ≤ n ∧ i = .int .i64 k ∧ hs = .int .i64 hi' ∧ cs = .int .i64 cc ∧ foldH v ps (l.take k) = some (hi', cc) ∧ 0 ≤ cc ∧ cc ≤ k ∧ 0 ≤ hi' ∧ hi' ≤ k ∧ Below w.heap.size w wr) (fun _ _ i _ => n - (intOf i).toNat)
    case atStart => exact ⟨0, 0, 0, Nat.zero_le _, rfl, rfl, rfl, rfl, by omega, by omega, by omega, by omega, Below.refl _ _⟩
    case round =>
      obtain ⟨k, hm, cc, hk, rfl, rfl, rfl, hf0, c0, c1, m0, m1, hb⟩ := hrel
      by_cases hlt : k < n
      · obtain ⟨b, o, x0, x1, rfl, _, _, hl0, i0, i1, d0, d1⟩ := Tok_at (h.below hb hh) hlt
        have hs := foldH_succ (vars := v) (ps := ps) (e := l) (k := k) (by omega)
        rw [hl0, hf0] at hs
        have hsz := hb.size
        have h2 := h'.below hb hh'
        obtain ⟨q1, q2⟩ := needF_bd (t := (x0, x1)) HP.out
        have hdd := Lib.hid (fun (q : stepH v ps (some (hm, cc)) (x0, x1) = none) => highF_dead (e := l) (vars := v) (ps := ps) (k := k + 1) (hs.trans q))
        have hF := Lib.hid hf0
        clear hf0 hl0
        by_cases ht : tokB (x0, x1) v (n' : Int) = true
        · have ht' : tokB (x0, x1) v ps.length = true := by rw [e2]; exact ht
          by_cases hc : cc < needF (x0, x1) ps
          · have hd := Lib.hid (hdd.out (stepH_no2 hc))
            have hcd : decide (needF (x0, x1) ps > cc) = true := by simpa using hc
            clear hs ht'
            go_wp2_with (first
              | (go_at_call 124; ((with_reducible refine (implIsTok _ _ _ _ _ i1 (by omega) (by omega)).mono ?_); rintro e w2 ⟨rfl, hb2⟩; obtain ⟨hcE, hfE⟩ := bcell hb2; have hz2 := hb2.size; simp only [World.size_alloc] at hz2))
              | (go_at_call 125; ((with_reducible refine (implNeeds _ lo' hi' _ _ _ _ _ _ ps (h2.below (show Below wr.heap.size wr _ by exact belA) (by omega)) (by first | omega | (simp; omega)) ht).mono ?_); rintro e w3 ⟨rfl, hb3⟩; obtain ⟨hcE3, hfE3⟩ := bcell hb3; have hz3 := hb3.size)))
            go_ret
            exact ⟨ret_int hd.out.symm, below_then hb (show Below wr.heap.size wr w3 by exact belA)⟩
          · have hS := Lib.hid (hs.trans (stepH_yes ht' hc))
            have hcd : decide (needF (x0, x1) ps > cc) = false := by simp; omega
            clear hs ht'
            go_wp2_with fail
            refine (implIsTok _ _ _ _ _ i1 (by omega) (by omega)).mono ?_
            rintro e w2 ⟨rfl, hb2⟩
            obtain ⟨hcE, hfE⟩ := bcell hb2
            have t0 : w2.cell? ⟨wr.heap.size, 0, none⟩ = some (.int .i64 x0) := by simp [hcE, go_sem]
            have t1 : w2.cell? ⟨wr.heap.size, 1, none⟩ = some (.int .i64 x1) := by simp [hcE, go_sem]
            clear hcE hfE
            have hx2 : Below wr.heap.size wr w2 := by exact belA
            have hz2 := hx2.size
            go_wp2_with fail
            refine (implNeeds _ lo' hi' _ _ _ _ _ _ ps (h2.below hx2 (by omega)) (by omega) ht).mono ?_
            rintro e w3 ⟨rfl, hb3⟩
            have t0 := below_cell hb3 t0
            have t1 := below_cell hb3 t1
            have hx3 := below_then hx2 hb3
            have hz3 := hx3.size
            go_wp2_with fail
            refine (implNeeds _ lo' hi' _ _ _ _ _ _ ps (h2.below hx3 (by omega)) (by omega) ht).mono ?_
            rintro e w4 ⟨rfl, hb4⟩
            have hx4 := below_then hx3 hb4
            go_wp2_with fail
            go_roundw
            case rel => exact ⟨k + 1, _, _, by omega, by go_num, by first | rfl | go_num, rfl, hS.out, by omega, by omega, by omega, by omega, below_then hb hx4⟩
            case measure => simp [intOf]; omega
        · have ht : tokB (x0, x1) v (n' : Int) = false := by simpa using ht
          have hd := Lib.hid (hdd.out (stepH_no1 (by rw [e2]; exact ht)))
          clear hs
          go_wp2_with (first
              | (go_at_call 124; ((with_reducible refine (implIsTok _ _ _ _ _ i1 (by omega) (by omega)).mono ?_); rintro e w2 ⟨rfl, hb2⟩)))
          go_ret
          exact ⟨ret_int hd.out.symm, below_then hb (show Below wr.heap.size wr w2 by exact belA)⟩
      · have hE := Lib.hid (highF_end (e := l) (vars := v) (ps := ps) (h := hm) (c := cc) (by rwa [List.take_of_length_le (by omega)] at hf0) gl)
        clear hf0
        go_wp2
        all_goals
          go_ret
          exact ⟨ret_int (by rw [hE.out]; simp_all), hb⟩
  · have hg : inB (n : Int) 1 12 = false := by simpa using hg
    have hd := Lib.hid (show highF l v ps = 0 by unfold highF; rw [if_neg]; intro hx; rw [e1] at hx; rw [inB_true (by omega)] at hg; cases hg)
    go_enter Try.func111, Try.ntmps111
    go_wp2_with (go_at_call 45; ((with_reducible refine (implWithin _ _ _ _).mono ?_); rintro e w2 ⟨rfl, rfl⟩))
    go_ret
    exact ⟨ret_int hd.out.symm, by exact belA⟩

def highS (l : List Tok) (v : Int) (ps : List Int) : Int := match foldH v ps l with | some (h, c) => if c = 1 ∧ l.length ≤ 12 then h else -1 | none => -1
theorem highS_dead {e : List Tok} {vars : Int} {ps : List Int} {k : Nat} (h : foldH vars ps (e.take k) = none) : highS e vars ps = -1 := by
  unfold highS; rw [foldH_dead h]
theorem highS_end {e : List Tok} {vars : Int} {ps : List Int} {h c : Int} (hf : foldH vars ps e = some (h, c)) : highS e vars ps = if c = 1 ∧ e.length ≤ 12 then h else -1 := by
  unfold highS; rw [hf]
theorem foldH_nil {vars : Int} {ps : List Int} {h c : Int} (hf : foldH vars ps [] = some (h, c)) : c = 0 := by
  unfold foldH at hf; simp at hf; exact hf.2.symm
theorem highS_F {l : List Tok} {v : Int} {ps : List Int} (hp : 0 < highF l v ps) : highS l v ps = highF l v ps := by
  unfold highF at hp ⊢
  unfold highS
  split at hp
  · rename_i hl
    rw [if_pos hl]
    rcases hf : foldH v ps l with _ | ⟨h, c⟩
    · rw [hf] at hp; simp at hp
    · rw [hf] at hp
      simp only at hp ⊢
      by_cases hc : c = 1
      · rw [if_pos ⟨hc, hl.2⟩, if_pos hc]
      · rw [if_neg hc] at hp; omega
  · omega
theorem highS_pos (l : List Tok) (v : Int) (ps : List Int) : decide (0 < highS l v ps) = decide (0 < highF l v ps) := by
  by_cases hp : 0 < highF l v ps
  · rw [highS_F hp]
  · rw [decide_eq_false hp]
    simp only [decide_eq_false_iff_not]
    unfold highF at hp
    unfold highS
    rcases hf : foldH v ps l with _ | ⟨h, c⟩
    · simp
    · rw [hf] at hp
      simp only at hp ⊢
      by_cases hc : c = 1 ∧ l.length ≤ 12
      · rw [if_pos hc]
        have hl : 1 ≤ l.length := by
          rcases l with _ | ⟨t, l⟩
          · have := foldH_nil hf; omega
          · simp
        rw [if_pos ⟨hl, hc.2⟩, if_pos hc.1] at hp
        exact hp
      · rw [if_neg hc]; omega
set_option maxHeartbeats 2000000 in
theorem specL2High (w : World) (lo hi lo' hi' : Nat) (n c n' c' : Nat) (A A' : Option Addr) (l : List Tok) (v : Int) (ps : List Int) (h : Sl TokR w lo hi A n c l) (h' : Sl intR w lo' hi' A' n' c' ps) (hh : hi ≤ w.heap.size) (hh' : hi' ≤ w.heap.size)
    (hv : 0 ≤ v ∧ v ≤ 100) (hp : goodNeeds ps) (hn' : n' ≤ 100) (hn : n ≤ 1048576) :
    Calls Try.prog 129 #[.slice A n c, .int .i64 v, .slice A' n' c'] w (RetV (.int .i64 (highS l v ps)) w) := by
  have e1 := h.lenEq
  have e2 := h'.lenEq
  have b1 := h.lenLe
  have HP := Lib.hid hp
  clear hp
  go_enter Try.func129, Try.ntmps129
  go_wp2_with fail
  go_loopw [7, 8, 13] (fun cs hs i wr => ∃ (k : Nat) (hi' cc : Int), k ≤ n ∧ i = .int .i64 k ∧ hs = .int .i64 hi' ∧ cs = .int .i64 cc ∧ foldH v ps (l.take k) = some (hi', cc) ∧ 0 ≤ cc ∧ cc ≤ k ∧ 0 ≤ hi' ∧ hi' ≤ k ∧ Below w.heap.size w wr) (fun _ _ i _ => n - (intOf i).toNat)
  case atStart => exact ⟨0, 0, 0, Nat.zero_le _, rfl, rfl, rfl, rfl, by omega, by omega, by omega, by omega, Below.refl _ _⟩
  case round =>
    obtain ⟨k, hm, cc, hk, rfl, rfl, rfl, hf0, c0, c1, m0, m1, hb⟩ := hrel
    by_cases hlt : k < n
    · obtain ⟨b, o, x0, x1, rfl, _, _, hl0, i0, i1, d0, d1⟩ := Tok_at (h.below hb hh) hlt
      have hs := foldH_succ (vars := v) (ps := ps) (e := l) (k := k) (by omega)
      rw [hl0, hf0] at hs
      have hsz := hb.size
      have h2 := h'.below hb hh'
      obtain ⟨q1, q2⟩ := needF_bd (t := (x0, x1)) HP.out
      have hdd := Lib.hid (fun (q : stepH v ps (some (hm, cc)) (x0, x1) = none) => highS_dead (e := l) (vars := v) (ps := ps) (k := k + 1) (hs.trans q))
      have hF := Lib.hid hf0
      clear hf0 hl0
      by_cases ht : tokB (x0, x1) v (n' : Int) = true
      · have ht' : tokB (x0, x1) v ps.length = true := by rw [e2]; exact ht
        have hS := Lib.hid (fun hc => hs.trans (stepH_yes ht' hc))
        have hd := Lib.hid (fun hc => hdd.out (stepH_no2 hc))
        clear hs ht'
        go_wp2_with fail
        refine (specL2Known _ x0 x1 v A' n' c' hv hn').mono ?_
        rintro e w2 ⟨rfl, hb2⟩
        obtain ⟨hcE, hfE⟩ := bcell hb2
        have t0 : w2.cell? ⟨wr.heap.size, 0, none⟩ = some (.int .i64 x0) := by simp [hcE, go_sem]
        have t1 : w2.cell? ⟨wr.heap.size, 1, none⟩ = some (.int .i64 x1) := by simp [hcE, go_sem]
        clear hcE hfE
        have hx2 : Below wr.heap.size wr w2 := by exact belA
        have hz2 := hx2.size
        go_wp2_with fail
        refine (specL2Needs _ lo' hi' x0 x1 v A' n' c' ps (h2.below hx2 (by omega)) (by omega) ht).mono ?_
        rintro e w3 ⟨rfl, hb3⟩
        have t0 := below_cell hb3 t0
        have t1 := below_cell hb3 t1
        have hx3 := below_then hx2 hb3
        have hz3 := hx3.size
        by_cases hc : cc < needF (x0, x1) ps
        · have hd := Lib.hid (hd.out (by omega))
          go_wp2_with fail
          go_ret
          exact ⟨ret_int hd.out.symm, below_then hb hx3⟩
        · have hS := Lib.hid (hS.out (by omega))
          have hcd : decide (cc < needF (x0, x1) ps) = false := by simpa using hc
          go_wp2_with fail
          refine (specL2Needs _ lo' hi' x0 x1 v A' n' c' ps (h2.below hx3 (by omega)) (by omega) ht).mono ?_
          rintro e w4 ⟨rfl, hb4⟩
          have hx4 := below_then hx3 hb4
          go_wp2_with fail
          refine (specL1Most _ _ _).mono ?_
          rintro e w5 ⟨rfl, hb5⟩
          have hx5 := below_then hx4 hb5
          go_wp2_with fail
          go_roundw
          case rel => exact ⟨k + 1, _, _, by omega, by go_num, by first | rfl | go_num, rfl, hS.out, by omega, by omega, by omega, by omega, below_then hb hx5⟩
          case measure => simp [intOf]; omega
      · have ht : tokB (x0, x1) v (n' : Int) = false := by simpa using ht
        have hd := Lib.hid (hdd.out (stepH_no1 (by rw [e2]; exact ht)))
        clear hs
        go_wp2_with fail
        refine (specL2Known _ x0 x1 v A' n' c' hv hn').mono ?_
        rintro e w2 ⟨rfl, hb2⟩
        go_wp2_with fail
        go_ret
        exact ⟨ret_int hd.out.symm, below_then hb (show Below wr.heap.size wr w2 by exact belA)⟩
    · have hE := Lib.hid (highS_end (e := l) (vars := v) (ps := ps) (h := hm) (c := cc) (by rwa [List.take_of_length_le (by omega)] at hf0))
      have e1' := Lib.hid e1
      clear hf0 e1
      go_wp2
      all_goals
        go_ret
        exact ⟨ret_int (by rw [hE.out, e1'.out]; first | (rw [if_neg (by omega)]; done) | (rw [if_pos (by simp_all; omega)]; done)), hb⟩
def parB (ps : List Int) : Bool := decide (ps.length ≤ 5) && ps.all fun x => inB x 0 2
theorem parB_good {ps : List Int} (h : parB ps = true) : goodNeeds ps ∧ ps.length ≤ 5 := by
  unfold parB at h
  simp only [Bool.and_eq_true, decide_eq_true_eq, List.all_eq_true] at h
  exact ⟨fun p hp => inB_iff.1 (h.2 p hp), h.1⟩
theorem specL2Params (w : World) (lo hi n c : Nat) (A : Option Addr) (l : List Int) (h : Sl intR w lo hi A n c l) (hh : hi ≤ w.heap.size) :
    Calls Try.prog 69 #[.slice A n c] w (RetB (parB l) w) := by
  have e1 := h.lenEq
  by_cases hn : n ≤ 5
  · have hd : decide ((n : Int) ≤ 5) = true := by simp; omega
    have hq := Lib.hid (show parB l = l.all fun x => inB x 0 2 by simp [parB, e1, hn])
    go_enter Try.func69, Try.ntmps69
    go_wp2_with (go_at_call 53; refine (specL1All _ lo hi _ _ _ l _ _ h hh).mono ?_; rintro e w2 ⟨rfl, hb⟩)
    go_ret
    exact RetB.mk hq.out.symm (by exact belA)
  · have hd : decide ((n : Int) ≤ 5) = false := by simp; omega
    have hq := Lib.hid (show parB l = false by simp [parB, e1, hn])
    go_enter Try.func69, Try.ntmps69
    go_wp2_with fail
    go_ret
    exact RetB.mk hq.out.symm (by exact belA)
theorem areParams1 (w : World) (x : Int) : Calls Try.prog 105 #[.int .i64 x] w (RetB (!inB x 0 2) w) := by
  go_enter Try.func105, Try.ntmps105
  go_wp2_with (go_at_call 45; refine (implWithin _ _ _ _).mono ?_; rintro e w2 ⟨rfl, rfl⟩)
  go_ret
  exact RetB.mk rfl (by exact belA)
theorem implAreParams (w : World) (lo hi n c : Nat) (A : Option Addr) (l : List Int) (h : Sl intR w lo hi A n c l) (hh : hi ≤ w.heap.size) :
    Calls Try.prog 77 #[.slice A n c] w (RetB (parB l) w) := by
  have e1 := h.lenEq
  by_cases hn : n ≤ 5
  · have hd : decide ((n : Int) ≤ 5) = true := by simp; omega
    have hq := Lib.hid (show parB l = l.all fun x => inB x 0 2 by simp [parB, e1, hn])
    go_enter Try.func77, Try.ntmps77
    go_wp2_with fail
    refine (conFuncInt 105 #[] (fun x => !inB x 0 2) _ lo hi n c A l h hh (fun _ _ => by kernel_rfl) (fun W x _ _ _ => areParams1 W x)).mono ?_
    rintro e w2 ⟨rfl, hb⟩
    go_wp2_with fail
    go_ret
    exact RetB.mk (by rw [hq.out, ← any_not_all]) hb
  · have hd : decide ((n : Int) ≤ 5) = false := by simp; omega
    have hq := Lib.hid (show parB l = false by simp [parB, e1, hn])
    go_enter Try.func77, Try.ntmps77
    go_wp2_with fail
    go_ret
    exact RetB.mk hq.out.symm (by exact belA)
def goodE (l : List Tok) (v : Int) (ps : List Int) : Bool := inB v 0 6 && parB ps && decide (0 < highF l v ps)
theorem specGoodExpr (w : World) (lo hi lo' hi' : Nat) (n c n' c' : Nat) (A A' : Option Addr) (l : List Tok) (v : Int) (ps : List Int) (h : Sl TokR w lo hi A n c l) (h' : Sl intR w lo' hi' A' n' c' ps) (hh : hi ≤ w.heap.size) (hh' : hi' ≤ w.heap.size) (hn : n ≤ 1048576) :
    Calls Try.prog 121 #[.slice A n c, .int .i64 v, .slice A' n' c'] w (RetB (goodE l v ps) w) := by
  have e2 := h'.lenEq
  have hq0 : goodE l v ps = (inB v 0 6 && parB ps && decide (0 < highS l v ps)) := by rw [highS_pos]; rfl
  have hq := Lib.hid hq0
  clear hq0
  by_cases hv : inB v 0 6 = true
  · by_cases hp : parB ps = true
    · obtain ⟨g1, g2⟩ := parB_good hp
      have g1 := Lib.hid g1
      have v1 := inB_iff.1 hv
      go_enter Try.func121, Try.ntmps121
      go_wp2_with (first
        | (go_at_call 44; ((with_reducible refine (specL1In _ _ _ _).mono ?_); rintro e w2 ⟨rfl, rfl⟩))
        | (go_at_call 69; ((with_reducible refine (specL2Params _ lo' hi' _ _ _ ps h' hh').mono ?_); rintro e w2 ⟨rfl, hb⟩))
        | (go_at_call 129; ((with_reducible refine (specL2High _ lo hi lo' hi' _ _ _ _ _ _ l _ ps (h.below hb hh) (h'.below hb hh') (by have := hb.size; omega) (by have := hb.size; omega) (by omega) g1.out (by omega) hn).mono ?_); rintro e w3 ⟨rfl, hb3⟩)))
      go_ret
      exact RetB.mk (by rw [hq.out]; simp_all) (below_then hb hb3)
    · have hp : parB ps = false := by simpa using hp
      go_enter Try.func121, Try.ntmps121
      go_wp2_with (first
        | (go_at_call 44; ((with_reducible refine (specL1In _ _ _ _).mono ?_); rintro e w2 ⟨rfl, rfl⟩))
        | (go_at_call 69; ((with_reducible refine (specL2Params _ lo' hi' _ _ _ ps h' hh').mono ?_); rintro e w2 ⟨rfl, hb⟩)))
      go_ret
      exact RetB.mk (by rw [hq.out]; simp_all) hb
  · have hv : inB v 0 6 = false := by simpa using hv
    go_enter Try.func121, Try.ntmps121
    go_wp2_with (go_at_call 44; ((with_reducible refine (specL1In _ _ _ _).mono ?_); rintro e w2 ⟨rfl, rfl⟩))
    go_ret
    exact RetB.mk (by rw [hq.out]; simp_all) (by exact belA)
end Go.Proofs.Ytgoinmdnpaknpaa

/- Rising numbers within bounds: the reference's walk. -/
set_option linter.unusedVariables false
set_option linter.unusedSimpArgs false
set_option maxRecDepth 100000
namespace Go.Proofs.Ytgoinmdnpaknpaa
open Go.RowKit
def risP (l : List Int) (a b : Int) (i : Nat) : Bool := inB (l.getD i 0) a b && (i == 0 || decide (l.getD (i - 1) 0 < l.getD i 0))
def risB (l : List Int) (a b : Int) : Bool := (List.range l.length).all (risP l a b)
theorem risP_of {l : List Int} {a b : Int} {i : Nat} {x : Int} (hi : i < l.length) (hx : l[i] = x) : risP l a b i = (inB x a b && (i == 0 || decide (l.getD (i - 1) 0 < x))) := by
  have : l.getD i 0 = x := by simp [List.getD, hi, hx]
  unfold risP; rw [this]
theorem range_all_succ {p : Nat → Bool} {k : Nat} (h : (List.range k).all p = true) (hp : p k = true) : (List.range (k + 1)).all p = true := by
  rw [List.range_succ, List.all_append, h]; simpa using hp
theorem range_all_false {p : Nat → Bool} {k n : Nat} (hk : k < n) (hp : p k = false) : (List.range n).all p = false := by
  rw [List.all_eq_false]; exact ⟨k, List.mem_range.2 hk, by simpa using hp⟩
theorem risB_pw {l : List Int} {a b : Int} : risB l a b = true ↔ (∀ x, x ∈ l → a ≤ x ∧ x ≤ b) ∧ l.Pairwise (· < ·) := by
  unfold risB
  rw [List.all_eq_true]
  constructor
  · intro h
    have h1 : ∀ i (hi : i < l.length), inB l[i] a b = true ∧ (i = 0 ∨ l.getD (i - 1) 0 < l[i]) := by
      intro i hi
      have := h i (List.mem_range.2 hi)
      rw [risP_of hi rfl] at this
      simpa using this
    refine ⟨fun x hx => ?_, ?_⟩
    · obtain ⟨i, hi, rfl⟩ := List.getElem_of_mem hx
      exact inB_iff.1 (h1 i hi).1
    · rw [List.pairwise_iff_getElem]
      intro i j hi hj hij
      induction j with
      | zero => omega
      | succ j ih =>
        have h2 := (h1 (j + 1) hj).2
        have h3 : l.getD (j + 1 - 1) 0 = l[j]'(by omega) := by
          rw [show j + 1 - 1 = j from rfl]; simp only [List.getD]; rw [List.getElem?_eq_getElem (by omega), Option.getD_some]
        rw [h3] at h2
        by_cases e : i = j
        · subst e; omega
        · have := ih (by omega) (by omega); omega
  · rintro ⟨h1, h2⟩ i hi
    have hi := List.mem_range.1 hi
    rw [risP_of hi rfl, inB_true (h1 _ (List.getElem_mem hi))]
    rcases i with _ | i
    · rfl
    · have h3 : l.getD (i + 1 - 1) 0 = l[i]'(by omega) := by
        rw [show i + 1 - 1 = i from rfl]; simp only [List.getD]; rw [List.getElem?_eq_getElem (by omega), Option.getD_some]
      rw [h3]
      have := List.pairwise_iff_getElem.1 h2 i (i + 1) (by omega) hi (by omega)
      simpa using this
theorem risB_count {l : List Int} {a b : Int} (h : risB l a b = true) (x : Int) : l.count x ≤ 1 :=
  List.nodup_iff_count.1 ((risB_pw.1 h).2.imp fun h => by omega) x
theorem specL1Rising (w : World) (lo hi n c : Nat) (A : Option Addr) (l : List Int) (a b : Int) (h : Sl intR w lo hi A n c l) (hh : hi ≤ w.heap.size) :
    Calls Try.prog 120 #[.slice A n c, .int .i64 a, .int .i64 b] w (RetB (risB l a b) w) := by
  have e1 := h.lenEq
  have b1 := h.lenLe
  go_enter Try.func120, Try.ntmps120
  go_wp2_with fail
  go_loopw [11] (fun i wr => ∃ k : Nat, k ≤ n ∧ i = .int .i64 k ∧ (List.range k).all (risP l a b) = true ∧ Below w.heap.size w wr) (fun i _ => n - (intOf i).toNat)
  case atStart => exact ⟨0, Nat.zero_le _, rfl, rfl, Below.refl _ _⟩
  case round =>
    obtain ⟨k, hk, rfl, ht0, hb⟩ := hrel
    have ht := Lib.hid ht0
    clear ht0
    by_cases hlt : k < n
    · obtain ⟨b', o, rfl, _, _, hc1, _⟩ := (h.below hb hh).int_at hlt
      generalize hl0 : l[k]'(by omega) = x at hc1
      have hP := risP_of (a := a) (b := b) (by omega) hl0
      have hok := Lib.hid (fun (hp : risP l a b k = true) => range_all_succ ht.out hp)
      have hno := Lib.hid (fun (hp : risP l a b k = false) => range_all_false (n := l.length) (by omega) hp)
      clear hl0
      cases k with
      | zero =>
        have hP' := Lib.hid (show risP l a b 0 = inB x a b by rw [hP]; simp)
        clear hP
        have hc0 : wr.cell? ⟨b', o, none⟩ = some (.int .i64 x) := hc1
        go_wp2_with (go_at_call 44; refine (specL1In _ _ _ _).mono ?_; rintro e w2 ⟨rfl, rfl⟩)
        all_goals first
          | (go_roundw
             case rel => exact ⟨1, by omega, by go_num, hok.out (by rw [hP'.out]; simp_all), by exact belA⟩
             case measure => simp [intOf]; omega)
          | (go_ret
             exact RetB.mk (by rw [risB, hno.out (by rw [hP'.out]; simp_all)]) (by exact belA))
      | succ j =>
        obtain ⟨b2, o2, hA, _, _, hc2, _⟩ := (h.below hb hh).int_at (k := j) (by omega)
        injection hA with hA
        injection hA with hA1 hA2
        subst hA1 hA2
        generalize hl1 : l[j]'(by omega) = y at hc2
        have hy : l.getD j 0 = y := by simp only [List.getD]; rw [List.getElem?_eq_getElem (by omega), hl1, Option.getD_some]
        have hP' := Lib.hid (show risP l a b (j + 1) = (inB x a b && decide (y < x)) by rw [hP, show j + 1 - 1 = j from rfl, hy]; simp)
        have hkk : ((j + 1 : Nat) : Int) - 1 = (j : Int) := by omega
        have hk0 : decide ((0 : Int) < ((j + 1 : Nat) : Int)) = true := by first | omega | (simp; done) | (simp; omega)
        clear hP hl1 hy
        by_cases hyx : y < x
        all_goals
          go_wp2_with (go_at_call 44; refine (specL1In _ _ _ _).mono ?_; rintro e w2 ⟨rfl, rfl⟩)
          all_goals first
            | (go_roundw
               case rel => exact ⟨j + 1 + 1, by omega, by go_num, hok.out (by rw [hP'.out]; simp_all), by exact belA⟩
               case measure => simp [intOf]; omega)
            | (go_ret
               exact RetB.mk (by rw [risB, hno.out (by rw [hP'.out]; simp_all)]) (by exact belA))
    · go_wp2
      go_ret
      exact RetB.mk (by rw [risB, show l.length = k by omega, ht.out]) hb
end Go.Proofs.Ytgoinmdnpaknpaa
