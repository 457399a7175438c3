/- Several texts in one: Expr, AllI, High, Rising. -/
import Derived.Test.YtgoinmdnpaknpaaGreatTyPg
import Derived.Test.YtgoinmdnpaknpaaGreatKit1

/- Expressions: tokens, what they need, how high the pile is. Walks of both sides. -/
set_option linter.unusedVariables false
set_option linter.unusedSimpArgs false
set_option maxRecDepth 100000
namespace Go.Proofs.YtgoinmdnpaknpaaGreat
open Go.RowKit

def small (n : Int) : Bool := inB n (-2147483648) 2147483647
theorem small_wrap (n : Int) (h : I64 n) : (n == wrap64 (wrap32 n)) = small n := by
  obtain ⟨h1, h2⟩ := h
  by_cases hs : -2147483648 ≤ n ∧ n ≤ 2147483647
  · rw [small, inB_true hs]
    have : wrap64 (wrap32 n) = n := by unfold wrap64 wrap32; omega
    rw [this]; simp
  · rw [small, inB_false hs]
    simp; unfold wrap64 wrap32; omega
theorem implIsSmall (w : World) (n : Int) (h : I64 n) : Calls Tryz.prog 109 #[.int .i64 n] w (RetB (small n) w) := by
  have hq := Lib.hid (small_wrap n h)
  go_enter Tryz.func109, Tryz.ntmps109
  go_wp2
  go_ret
  exact RetB.mk hq.out (by exact belA)
theorem specL2Bound (w : World) (n : Int) : Calls Tryz.prog 81 #[.int .i64 n] w (RetB (small n) w) := by
  go_enter Tryz.func81, Tryz.ntmps81
  go_wp2_with (go_at_call 49; refine (specL1In _ _ _ _).mono ?_; rintro e w2 ⟨rfl, rfl⟩)
  go_ret
  exact RetB.mk rfl (by exact belA)

/-- Whether a token is one. -/
def tokB (t : Tok) (vars funcs : Int) : Bool :=
  if t.1 = 1 then small t.2 else if t.1 = 2 then inB t.2 0 (vars - 1) else if t.1 = 11 then inB t.2 0 (funcs - 1) else inB t.1 3 10 && t.2 == 0

/-- How many numbers a token takes. -/
def needF (t : Tok) (params : List Int) : Int := if t.1 = 11 then params.getD t.2.toNat 0 else if inB t.1 3 8 = true then 2 else 0
def goodNeeds (params : List Int) : Prop := ∀ p, p ∈ params → 0 ≤ p ∧ p ≤ 2
theorem needF_bd {t : Tok} {params : List Int} (h : goodNeeds params) : 0 ≤ needF t params ∧ needF t params ≤ 2 := by
  unfold needF
  split
  · rcases hp : params[t.2.toNat]? with _ | p
    · simp [List.getD, hp]
    · simp only [List.getD, hp, Option.getD_some]; exact h p (List.mem_of_getElem? hp)
  · split <;> omega
theorem tokB_call {t : Tok} {v f : Int} (h : tokB t v f = true) (h1 : t.1 = 11) : 0 ≤ t.2 ∧ t.2 < f := by
  unfold tokB at h
  rw [if_neg (by omega), if_neg (by omega), if_pos h1, inB_iff] at h
  omega
theorem implIsReckoned (w : World) (n : Int) : Calls Tryz.prog 110 #[.int .i64 n] w (RetB (inB n 3 8) w) := by
  go_enter Tryz.func110, Tryz.ntmps110
  go_wp2_with (go_at_call 65; refine (implWithin _ _ _ _).mono ?_; rintro e w2 ⟨rfl, rfl⟩)
  go_ret
  exact RetB.mk rfl (by exact belA)
theorem specL1Most (w : World) (a b : Int) : Calls Tryz.prog 42 #[.int .i64 a, .int .i64 b] w (RetV (.int .i64 (max a b)) w) := by
  go_enter Tryz.func42, Tryz.ntmps42
  go_wp2
  all_goals
    go_ret
    exact ⟨ret_int (by omega), by exact belA⟩
/-- One token more: how many at most, how many there are. -/
def stepH (vars : Int) (ps : List Int) (st : Option (Int × Int)) (t : Tok) : Option (Int × Int) :=
  match st with
  | none => none
  | some (h, c) => if tokB t vars ps.length = true ∧ ¬ c < needF t ps then some (max h (c + (1 - needF t ps)), c + (1 - needF t ps)) else none
def foldH (vars : Int) (ps : List Int) (e : List Tok) : Option (Int × Int) := e.foldl (stepH vars ps) (some (0, 0))
theorem foldH_none {vars : Int} {ps : List Int} : ∀ (e : List Tok), e.foldl (stepH vars ps) none = none
  | [] => rfl
  | t :: e => by rw [List.foldl_cons]; exact foldH_none e
theorem foldH_succ {vars : Int} {ps : List Int} {e : List Tok} {k : Nat} (hk : k < e.length) : foldH vars ps (e.take (k + 1)) = stepH vars ps (foldH vars ps (e.take k)) e[k] := by
  unfold foldH; rw [List.take_succ_eq_append_getElem hk, List.foldl_append]; rfl
theorem foldH_dead {vars : Int} {ps : List Int} {e : List Tok} {k : Nat} (h : foldH vars ps (e.take k) = none) : foldH vars ps e = none := by
  unfold foldH at *
  rw [← List.take_append_drop k e, List.foldl_append, h]; exact foldH_none _
/-- How many numbers are on the pile at most, 0 where the expression is not good. -/
def highF (e : List Tok) (vars : Int) (ps : List Int) : Int := if 1 ≤ e.length ∧ e.length ≤ 12 then match foldH vars ps e with | some (h, c) => if c = 1 then h else 0 | none => 0 else 0
theorem highF_dead {e : List Tok} {vars : Int} {ps : List Int} {k : Nat} (h : foldH vars ps (e.take k) = none) : highF e vars ps = 0 := by
  unfold highF; rw [foldH_dead h]; simp
theorem highF_end {e : List Tok} {vars : Int} {ps : List Int} {h c : Int} (hf : foldH vars ps e = some (h, c)) (hl : 1 ≤ e.length ∧ e.length ≤ 12) : highF e vars ps = if c = 1 then h else 0 := by
  unfold highF; rw [if_pos hl, hf]
end Go.Proofs.YtgoinmdnpaknpaaGreat

/- Whether all of a list lie within bounds: walk of the reference. -/
set_option linter.unusedVariables false
set_option linter.unusedSimpArgs false
set_option maxRecDepth 100000
namespace Go.Proofs.YtgoinmdnpaknpaaGreat
open Go.RowKit
theorem specL1All (w : World) (lo hi n c : Nat) (A : Option Addr) (l : List Int) (a b : Int) (h : Sl intR w lo hi A n c l) (hh : hi ≤ w.heap.size) :
    Calls Tryz.prog 44 #[.slice A n c, .int .i64 a, .int .i64 b] w (RetB (l.all fun x => inB x a b) w) := by
  have e1 := h.lenEq
  have b1 := h.lenLe
  go_enter Tryz.func44, Tryz.ntmps44
  go_wp2_with fail
  go_loopw [11] (fun i wr => ∃ k : Nat, k ≤ n ∧ i = .int .i64 k ∧ ((l.take k).all fun x => inB x a b) = true ∧ Below w.heap.size w wr) (fun i _ => n - (intOf i).toNat)
  case atStart => exact ⟨0, Nat.zero_le _, rfl, rfl, Below.refl _ _⟩
  case round =>
    obtain ⟨k, hk, rfl, ht0, hb⟩ := hrel
    have ht := Lib.hid ht0
    clear ht0
    by_cases hlt : k < n
    · obtain ⟨b', o, rfl, _, _, hc1, _⟩ := (h.below hb hh).int_at hlt
      generalize hl0 : l[k]'(by omega) = x at hc1
      have hok := Lib.hid (fun (hp : inB x a b = true) => all_take_succ (p := fun x => inB x a b) ht.out (by omega) (by rw [hl0]; exact hp))
      have hno := Lib.hid (fun (hp : inB x a b = false) => all_false (p := fun x => inB x a b) (l := l) (k := k) (by omega) (by rw [hl0]; exact hp))
      clear hl0
      go_wp2_with (go_at_call 49; refine (specL1In _ _ _ _).mono ?_; rintro e w2 ⟨rfl, rfl⟩)
      all_goals first
        | (go_roundw
           case rel => exact ⟨k + 1, by omega, by go_num, hok.out (by simp_all), by exact belA⟩
           case measure => simp [intOf]; omega)
        | (go_ret
           exact RetB.mk (by rw [hno.out (by simp_all)]) (by exact belA))
    · go_wp2
      go_ret
      exact RetB.mk (by rw [List.take_of_length_le (by omega)] at ht; rw [ht.out]) hb
end Go.Proofs.YtgoinmdnpaknpaaGreat

/- Rising numbers within bounds: the reference's walk. -/
set_option linter.unusedVariables false
set_option linter.unusedSimpArgs false
set_option maxRecDepth 100000
namespace Go.Proofs.YtgoinmdnpaknpaaGreat
open Go.RowKit
def risP (l : List Int) (a b : Int) (i : Nat) : Bool := inB (l.getD i 0) a b && (i == 0 || decide (l.getD (i - 1) 0 < l.getD i 0))
def risB (l : List Int) (a b : Int) : Bool := (List.range l.length).all (risP l a b)
theorem risP_of {l : List Int} {a b : Int} {i : Nat} {x : Int} (hi : i < l.length) (hx : l[i] = x) : risP l a b i = (inB x a b && (i == 0 || decide (l.getD (i - 1) 0 < x))) := by
  have : l.getD i 0 = x := by simp [List.getD, hi, hx]
  unfold risP; rw [this]
theorem range_all_succ {p : Nat → Bool} {k : Nat} (h : (List.range k).all p = true) (hp : p k = true) : (List.range (k + 1)).all p = true := by
  rw [List.range_succ, List.all_append, h]; simpa using hp
theorem range_all_false {p : Nat → Bool} {k n : Nat} (hk : k < n) (hp : p k = false) : (List.range n).all p = false := by
  rw [List.all_eq_false]; exact ⟨k, List.mem_range.2 hk, by simpa using hp⟩
theorem risB_pw {l : List Int} {a b : Int} : risB l a b = true ↔ (∀ x, x ∈ l → a ≤ x ∧ x ≤ b) ∧ l.Pairwise (· < ·) := by
  unfold risB
  rw [List.all_eq_true]
  constructor
  · intro h
    have h1 : ∀ i (hi : i < l.length), inB l[i] a b = true ∧ (i = 0 ∨ l.getD (i - 1) 0 < l[i]) := by
      intro i hi
      have := h i (List.mem_range.2 hi)
      rw [risP_of hi rfl] at this
      simpa using this
    refine ⟨fun x hx => ?_, ?_⟩
    · obtain ⟨i, hi, rfl⟩ := List.getElem_of_mem hx
      exact inB_iff.1 (h1 i hi).1
    · rw [List.pairwise_iff_getElem]
      intro i j hi hj hij
      induction j with
      | zero => omega
      | succ j ih =>
        have h2 := (h1 (j + 1) hj).2
        have h3 : l.getD (j + 1 - 1) 0 = l[j]'(by omega) := by
          rw [show j + 1 - 1 = j from rfl]; simp only [List.getD]; rw [List.getElem?_eq_getElem (by omega), Option.getD_some]
        rw [h3] at h2
        by_cases e : i = j
        · subst e; omega
        · have := ih (by omega) (by omega); omega
  · rintro ⟨h1, h2⟩ i hi
    have hi := List.mem_range.1 hi
    rw [risP_of hi rfl, inB_true (h1 _ (List.getElem_mem hi))]
    rcases i with _ | i
    · rfl
    · have h3 : l.getD (i + 1 - 1) 0 = l[i]'(by omega) := by
        rw [show i + 1 - 1 = i from rfl]; simp only [List.getD]; rw [List.getElem?_eq_getElem (by omega), Option.getD_some]
      rw [h3]
      have := List.pairwise_iff_getElem.1 h2 i (i + 1) (by omega) hi (by omega)
      simpa using this
theorem risB_count {l : List Int} {a b : Int} (h : risB l a b = true) (x : Int) : l.count x ≤ 1 :=
  List.nodup_iff_count.1 ((risB_pw.1 h).2.imp fun h => by omega) x
end Go.Proofs.YtgoinmdnpaknpaaGreat
