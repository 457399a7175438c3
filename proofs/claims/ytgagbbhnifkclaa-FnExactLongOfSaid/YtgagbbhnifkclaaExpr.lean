/- Expressions: tokens, what they need, how high the pile is. Walks of both sides. -/
import Derived.Test.YtgagbbhnifkclaaTyTok
import Derived.Test.YtgagbbhnifkclaaAnyInt
import Derived.Test.YtgagbbhnifkclaaAnyTok
set_option linter.unusedVariables false
set_option linter.unusedSimpArgs false
set_option maxRecDepth 100000
namespace Go.Proofs.Ytgagbbhnifkclaa
open Go.RowKit

def small (n : Int) : Bool := inB n (-2147483648) 2147483647
theorem small_wrap (n : Int) (h : I64 n) : (n == wrap64 (wrap32 n)) = small n := by
  obtain ⟨h1, h2⟩ := h
  by_cases hs : -2147483648 ≤ n ∧ n ≤ 2147483647
  · rw [small, inB_true hs]
    have : wrap64 (wrap32 n) = n := by unfold wrap64 wrap32; omega
    rw [this]; simp
  · rw [small, inB_false hs]
    simp; unfold wrap64 wrap32; omega
theorem implIsSmall (w : World) (n : Int) (h : I64 n) : Calls Try.prog 182 #[.int .i64 n] w (RetB (small n) w) := by
  have hq := Lib.hid (small_wrap n h)
  go_enter Try.func182, Try.ntmps182
  go_wp2
  go_ret
  exact RetB.mk hq.out (by (repeat (first | with_reducible exact Below.refl _ _ | with_reducible assumption | with_reducible refine below_alloc ?_ _ | ((with_reducible refine Below.setCell ?_ ?_ _); rotate_left; (· first | exact Nat.le_refl _ | (simp; done) | (simp; omega))) | with_reducible refine below_drewN ?_ _ | with_reducible refine Below.drew ?_ | with_reducible refine below_then ?_ (by with_reducible assumption))))
theorem specL2Bound (w : World) (n : Int) : Calls Try.prog 230 #[.int .i64 n] w (RetB (small n) w) := by
  go_enter Try.func230, Try.ntmps230
  go_wp2_with (go_at_call 100; refine (specL1In _ _ _ _).mono ?_; rintro e w2 ⟨rfl, rfl⟩)
  go_ret
  exact RetB.mk rfl (by (repeat (first | with_reducible exact Below.refl _ _ | with_reducible assumption | with_reducible refine below_alloc ?_ _ | ((with_reducible refine Below.setCell ?_ ?_ _); rotate_left; (· first | exact Nat.le_refl _ | (simp; done) | (simp; omega))) | with_reducible refine below_drewN ?_ _ | with_reducible refine Below.drew ?_ | with_reducible refine below_then ?_ (by with_reducible assumption))))

/-- Whether a token is one. -/
def tokB (t : Tok) (vars funcs : Int) : Bool :=
  if t.1 = 1 then small t.2 else if t.1 = 2 then inB t.2 0 (vars - 1) else if t.1 = 11 then inB t.2 0 (funcs - 1) else inB t.1 3 10 && t.2 == 0
theorem implIsTok (w : World) (x y v f : Int) (iy : I64 y) (hv : 0 ≤ v ∧ v ≤ 1000) (hf : 0 ≤ f ∧ f ≤ 1000) : Calls Try.prog 157 #[.agg #[.int .i64 x, .int .i64 y], .int .i64 v, .int .i64 f] w (RetB (tokB (x, y) v f) w) := by
  obtain ⟨v1, v2⟩ := hv
  obtain ⟨f1, f2⟩ := hf
  go_enter Try.func157, Try.ntmps157
  go_wp2_with (first
    | (go_at_call 182; ((with_reducible refine (implIsSmall _ _ iy).mono ?_); rintro e w2 ⟨rfl, hb⟩))
    | (go_at_call 105; ((with_reducible refine (implWithin _ _ _ _).mono ?_); rintro e w2 ⟨rfl, rfl⟩)))
  all_goals
    go_ret
    exact RetB.mk (by simp_all [tokB]) (by (repeat (first | with_reducible exact Below.refl _ _ | with_reducible assumption | with_reducible refine below_alloc ?_ _ | ((with_reducible refine Below.setCell ?_ ?_ _); rotate_left; (· first | exact Nat.le_refl _ | (simp; done) | (simp; omega))) | with_reducible refine below_drewN ?_ _ | with_reducible refine Below.drew ?_ | with_reducible refine below_then ?_ (by with_reducible assumption))))
def tokS (t : Tok) : Bool := if t.1 = 1 then small t.2 else if t.1 = 2 ∨ t.1 = 11 then inB t.2 0 99 else inB t.1 3 10 && t.2 == 0
theorem specL2Token (w : World) (x y : Int) : Calls Try.prog 233 #[.agg #[.int .i64 x, .int .i64 y]] w (RetB (tokS (x, y)) w) := by
  go_enter Try.func233, Try.ntmps233
  go_wp2_with (first
    | (go_at_call 230; ((with_reducible refine (specL2Bound _ _).mono ?_); rintro e w2 ⟨rfl, hb⟩))
    | (go_at_call 100; ((with_reducible refine (specL1In _ _ _ _).mono ?_); rintro e w2 ⟨rfl, rfl⟩)))
  all_goals
    go_ret
    exact RetB.mk (by simp_all [tokS]) (by (repeat (first | with_reducible exact Below.refl _ _ | with_reducible assumption | with_reducible refine below_alloc ?_ _ | ((with_reducible refine Below.setCell ?_ ?_ _); rotate_left; (· first | exact Nat.le_refl _ | (simp; done) | (simp; omega))) | with_reducible refine below_drewN ?_ _ | with_reducible refine Below.drew ?_ | with_reducible refine below_then ?_ (by with_reducible assumption))))
theorem tokS_B (t : Tok) (vars funcs : Int) (hv : vars ≤ 100) (hf : funcs ≤ 100) : (tokS t && (!decide (t.1 = 2) || decide (t.2 < vars)) && (!decide (t.1 = 11) || decide (t.2 < funcs))) = tokB t vars funcs := by
  obtain ⟨x, y⟩ := t
  unfold tokS tokB
  simp only
  by_cases h1 : x = 1
  · subst h1; simp
  by_cases h2 : x = 2
  · subst h2; simp [inB]; rw [Bool.eq_iff_iff]; simp; omega
  by_cases h3 : x = 11
  · subst h3; simp [inB]; rw [Bool.eq_iff_iff]; simp; omega
  simp [h1, h2, h3]
theorem specL2Known (w : World) (x y v : Int) (A : Option Addr) (n c : Nat) (hv : 0 ≤ v ∧ v ≤ 100) (hn : n ≤ 100) : Calls Try.prog 197 #[.agg #[.int .i64 x, .int .i64 y], .int .i64 v, .slice A n c] w (RetB (tokB (x, y) v (n : Int)) w) := by
  obtain ⟨v1, v2⟩ := hv
  have hq := Lib.hid (tokS_B (x, y) v n v2 (by omega))
  go_enter Try.func197, Try.ntmps197
  go_wp2_with (first
    | (go_at_call 233; ((with_reducible refine (specL2Token _ _ _).mono ?_); rintro e w2 ⟨rfl, hb⟩; obtain ⟨hcE, hfE⟩ := bcell hb; have hbz := hb.size)))
  all_goals
    go_ret
    exact RetB.mk (by have hz := hq.out; clear hq; subst_vars; first | (simp_all; done) | (simp_all; rw [← hz]; simp; omega)) (by (repeat (first | with_reducible exact Below.refl _ _ | with_reducible assumption | with_reducible refine below_alloc ?_ _ | ((with_reducible refine Below.setCell ?_ ?_ _); rotate_left; (· first | exact Nat.le_refl _ | (simp; done) | (simp; omega))) | with_reducible refine below_drewN ?_ _ | with_reducible refine Below.drew ?_ | with_reducible refine below_then ?_ (by with_reducible assumption))))

/-- How many numbers a token takes. -/
def needF (t : Tok) (params : List Int) : Int := if t.1 = 11 then params.getD t.2.toNat 0 else if inB t.1 3 8 = true then 2 else 0
def goodNeeds (params : List Int) : Prop := ∀ p, p ∈ params → 0 ≤ p ∧ p ≤ 2
theorem needF_bd {t : Tok} {params : List Int} (h : goodNeeds params) : 0 ≤ needF t params ∧ needF t params ≤ 2 := by
  unfold needF
  split
  · rcases hp : params[t.2.toNat]? with _ | p
    · simp [List.getD, hp]
    · simp only [List.getD, hp, Option.getD_some]; exact h p (List.mem_of_getElem? hp)
  · split <;> omega
theorem tokB_call {t : Tok} {v f : Int} (h : tokB t v f = true) (h1 : t.1 = 11) : 0 ≤ t.2 ∧ t.2 < f := by
  unfold tokB at h
  rw [if_neg (by omega), if_neg (by omega), if_pos h1, inB_iff] at h
  omega
theorem implIsReckoned (w : World) (n : Int) : Calls Try.prog 160 #[.int .i64 n] w (RetB (inB n 3 8) w) := by
  go_enter Try.func160, Try.ntmps160
  go_wp2_with (go_at_call 105; refine (implWithin _ _ _ _).mono ?_; rintro e w2 ⟨rfl, rfl⟩)
  go_ret
  exact RetB.mk rfl (by (repeat (first | with_reducible exact Below.refl _ _ | with_reducible assumption | with_reducible refine below_alloc ?_ _ | ((with_reducible refine Below.setCell ?_ ?_ _); rotate_left; (· first | exact Nat.le_refl _ | (simp; done) | (simp; omega))) | with_reducible refine below_drewN ?_ _ | with_reducible refine Below.drew ?_ | with_reducible refine below_then ?_ (by with_reducible assumption))))
theorem implNeeds (w : World) (lo hi : Nat) (x y v : Int) (A : Option Addr) (n c : Nat) (ps : List Int) (h : Sl intR w lo hi A n c ps) (hh : hi ≤ w.heap.size) (ht : tokB (x, y) v (n : Int) = true) :
    Calls Try.prog 158 #[.agg #[.int .i64 x, .int .i64 y], .slice A n c] w (RetV (.int .i64 (needF (x, y) ps)) w) := by
  have e1 := h.lenEq
  by_cases h11 : x = 11
  · subst h11
    obtain ⟨y1, y2⟩ := tokB_call ht rfl
    simp only at y1 y2
    obtain ⟨k, rfl⟩ := Int.eq_ofNat_of_zero_le y1
    have hk : k < n := by omega
    obtain ⟨b, o, rfl, _, _, hc1, _⟩ := h.int_at hk
    have hN := Lib.hid (show needF (11, (k : Int)) ps = ps[k]'(by omega) by simp [needF, List.getD, e1, hk])
    have hbw : b < w.heap.size := World.block_lt_of_cell? w _ hc1
    clear ht
    go_enter Try.func158, Try.ntmps158
    go_wp2
    go_ret
    exact ⟨ret_int hN.out.symm, by (repeat (first | with_reducible exact Below.refl _ _ | with_reducible assumption | with_reducible refine below_alloc ?_ _ | ((with_reducible refine Below.setCell ?_ ?_ _); rotate_left; (· first | exact Nat.le_refl _ | (simp; done) | (simp; omega))) | with_reducible refine below_drewN ?_ _ | with_reducible refine Below.drew ?_ | with_reducible refine below_then ?_ (by with_reducible assumption)))⟩
  · clear ht
    have hd : (x == 11) = false := by simpa using h11
    have hN := Lib.hid (show needF (x, y) ps = if inB x 3 8 = true then 2 else 0 by simp [needF, h11])
    clear h11
    go_enter Try.func158, Try.ntmps158
    go_wp2_with (go_at_call 160; refine (implIsReckoned _ _).mono ?_; rintro e w2 ⟨rfl, hb⟩)
    all_goals
      go_ret
      exact ⟨ret_int (by rw [hN.out]; simp_all), by (repeat (first | with_reducible exact Below.refl _ _ | with_reducible assumption | with_reducible refine below_alloc ?_ _ | ((with_reducible refine Below.setCell ?_ ?_ _); rotate_left; (· first | exact Nat.le_refl _ | (simp; done) | (simp; omega))) | with_reducible refine below_drewN ?_ _ | with_reducible refine Below.drew ?_ | with_reducible refine below_then ?_ (by with_reducible assumption)))⟩
theorem specL2Needs (w : World) (lo hi : Nat) (x y v : Int) (A : Option Addr) (n c : Nat) (ps : List Int) (h : Sl intR w lo hi A n c ps) (hh : hi ≤ w.heap.size) (ht : tokB (x, y) v (n : Int) = true) :
    Calls Try.prog 198 #[.agg #[.int .i64 x, .int .i64 y], .slice A n c] w (RetV (.int .i64 (needF (x, y) ps)) w) := by
  have e1 := h.lenEq
  by_cases h11 : x = 11
  · subst h11
    obtain ⟨y1, y2⟩ := tokB_call ht rfl
    simp only at y1 y2
    obtain ⟨k, rfl⟩ := Int.eq_ofNat_of_zero_le y1
    have hk : k < n := by omega
    obtain ⟨b, o, rfl, _, _, hc1, _⟩ := h.int_at hk
    have hN := Lib.hid (show needF (11, (k : Int)) ps = ps[k]'(by omega) by simp [needF, List.getD, e1, hk])
    have hbw : b < w.heap.size := World.block_lt_of_cell? w _ hc1
    have hI : inB 11 3 8 = false := by decide
    clear ht
    go_enter Try.func198, Try.ntmps198
    go_wp2_with (go_at_call 100; refine (specL1In _ _ _ _).mono ?_; rintro e w2 ⟨rfl, rfl⟩)
    go_ret
    exact ⟨ret_int hN.out.symm, by (repeat (first | with_reducible exact Below.refl _ _ | with_reducible assumption | with_reducible refine below_alloc ?_ _ | ((with_reducible refine Below.setCell ?_ ?_ _); rotate_left; (· first | exact Nat.le_refl _ | (simp; done) | (simp; omega))) | with_reducible refine below_drewN ?_ _ | with_reducible refine Below.drew ?_ | with_reducible refine below_then ?_ (by with_reducible assumption)))⟩
  · clear ht
    have hd : (x == 11) = false := by simpa using h11
    have hN := Lib.hid (show needF (x, y) ps = if inB x 3 8 = true then 2 else 0 by simp [needF, h11])
    clear h11
    go_enter Try.func198, Try.ntmps198
    go_wp2_with (go_at_call 100; refine (specL1In _ _ _ _).mono ?_; rintro e w2 ⟨rfl, rfl⟩)
    all_goals
      go_ret
      exact ⟨ret_int (by rw [hN.out]; simp_all), by (repeat (first | with_reducible exact Below.refl _ _ | with_reducible assumption | with_reducible refine below_alloc ?_ _ | ((with_reducible refine Below.setCell ?_ ?_ _); rotate_left; (· first | exact Nat.le_refl _ | (simp; done) | (simp; omega))) | with_reducible refine below_drewN ?_ _ | with_reducible refine Below.drew ?_ | with_reducible refine below_then ?_ (by with_reducible assumption)))⟩
theorem specL1Most (w : World) (a b : Int) : Calls Try.prog 101 #[.int .i64 a, .int .i64 b] w (RetV (.int .i64 (max a b)) w) := by
  go_enter Try.func101, Try.ntmps101
  go_wp2
  all_goals
    go_ret
    exact ⟨ret_int (by omega), by (repeat (first | with_reducible exact Below.refl _ _ | with_reducible assumption | with_reducible refine below_alloc ?_ _ | ((with_reducible refine Below.setCell ?_ ?_ _); rotate_left; (· first | exact Nat.le_refl _ | (simp; done) | (simp; omega))) | with_reducible refine below_drewN ?_ _ | with_reducible refine Below.drew ?_ | with_reducible refine below_then ?_ (by with_reducible assumption)))⟩
/-- One token more: how many at most, how many there are. -/
def stepH (vars : Int) (ps : List Int) (st : Option (Int × Int)) (t : Tok) : Option (Int × Int) :=
  match st with
  | none => none
  | some (h, c) => if tokB t vars ps.length = true ∧ ¬ c < needF t ps then some (max h (c + (1 - needF t ps)), c + (1 - needF t ps)) else none
def foldH (vars : Int) (ps : List Int) (e : List Tok) : Option (Int × Int) := e.foldl (stepH vars ps) (some (0, 0))
theorem foldH_none {vars : Int} {ps : List Int} : ∀ (e : List Tok), e.foldl (stepH vars ps) none = none
  | [] => rfl
  | t :: e => by rw [List.foldl_cons]; exact foldH_none e
theorem foldH_succ {vars : Int} {ps : List Int} {e : List Tok} {k : Nat} (hk : k < e.length) : foldH vars ps (e.take (k + 1)) = stepH vars ps (foldH vars ps (e.take k)) e[k] := by
  unfold foldH; rw [List.take_succ_eq_append_getElem hk, List.foldl_append]; rfl
theorem foldH_dead {vars : Int} {ps : List Int} {e : List Tok} {k : Nat} (h : foldH vars ps (e.take k) = none) : foldH vars ps e = none := by
  unfold foldH at *
  rw [← List.take_append_drop k e, List.foldl_append, h]; exact foldH_none _
/-- How many numbers are on the pile at most, 0 where the expression is not good. -/
def highF (e : List Tok) (vars : Int) (ps : List Int) : Int := if 1 ≤ e.length ∧ e.length ≤ 12 then match foldH vars ps e with | some (h, c) => if c = 1 then h else 0 | none => 0 else 0
theorem highF_dead {e : List Tok} {vars : Int} {ps : List Int} {k : Nat} (h : foldH vars ps (e.take k) = none) : highF e vars ps = 0 := by
  unfold highF; rw [foldH_dead h]; simp
theorem highF_end {e : List Tok} {vars : Int} {ps : List Int} {h c : Int} (hf : foldH vars ps e = some (h, c)) (hl : 1 ≤ e.length ∧ e.length ≤ 12) : highF e vars ps = if c = 1 then h else 0 := by
  unfold highF; rw [if_pos hl, hf]
end Go.Proofs.Ytgagbbhnifkclaa
