/- Numbers as bytes: contracts with the text named; rows as bytes (plain). -/
import Derived.Test.YtgoinmdnpaknpaaGreatLebS
import Derived.Test.YtgoinmdnpaknpaaGreatTyIm
import Derived.Test.YtgoinmdnpaknpaaGreatCheckP
set_option linter.unusedVariables false
set_option linter.unusedSimpArgs false
set_option maxRecDepth 100000
namespace Go.Proofs.YtgoinmdnpaknpaaGreat
open Go.RowKit
/-- A text is told that has these bytes, at most K. -/
def RetT (l : List UInt8) (K : Nat) (w : World) (e : Ending) (w' : World) : Prop := ∃ s : ByteArray, e = .returned (.string s) ∧ s.data.toList = l ∧ s.size ≤ K ∧ Below w.heap.size w w'
theorem uB_len : ∀ (j k n : Nat), k + j = 9 → n < 2 ^ (64 - 7 * k) → (uB n).length ≤ j + 1
  | 0, k, n, hk, hn => by
    have : k = 9 := by omega
    subst this
    simp only [Nat.reduceMul, Nat.reduceSub, Nat.reducePow] at hn
    rw [uB_small (by omega)]
    simp
  | j + 1, k, n, hk, hn => by
    by_cases h : n < 128
    · rw [uB_small h]; simp
    · have h1 := leb_step hn (by omega) h
      have h2 := uB_len j (k + 1) (n / 128) (by omega) h1.1
      rw [uB_big h, List.length_cons]
      omega
theorem sB_len : ∀ (j k : Nat) (n : Int), k + j = 9 → (-(2 ^ (63 - 7 * k) : Int) ≤ n ∧ n < 2 ^ (63 - 7 * k)) → (sB n).length ≤ j + 1
  | 0, k, n, hk, hn => by
    have : k = 9 := by omega
    subst this
    simp only [Nat.reduceMul, Nat.reduceSub, Int.reducePow, Int.reduceNeg] at hn
    rw [sB_small (by omega)]
    simp
  | j + 1, k, n, hk, hn => by
    by_cases h : -64 ≤ n ∧ n ≤ 63
    · rw [sB_small h]; simp
    · have h1 := lebs_step hn (by omega) h
      have h2 := sB_len j (k + 1) (n / 128) (by omega) h1.1
      rw [sB_big h, List.length_cons]
      omega
theorem RetT.ofS {l : List UInt8} {K : Nat} {w w' : World} {e : Ending} (h : RetS l w e w') (hl : l.length ≤ K) : RetT l K w e w' :=
  ⟨⟨l.toArray⟩, h.1, rfl, by simpa [ByteArray.size] using hl, h.2⟩
theorem u10 {N : Nat} (hN : N < 18446744073709551616) : (uB N).length ≤ 10 := uB_len 9 0 N rfl (by simpa using hN)
theorem s10 {N : Int} (hN : I64 N) : (sB N).length ≤ 10 := sB_len 9 0 N rfl (by unfold I64 at hN; simp; omega)
theorem implPutUT (w : World) (N : Nat) (hN : N < 18446744073709551616) : Calls Tryz.prog 87 #[.int .u64 N] w (RetT (uB N) 10 w) := (implPutU w N hN).mono fun _ _ h => RetT.ofS h (u10 hN)
theorem specPutUT (w : World) (N : Nat) (hN : N < 18446744073709551616) : Calls Tryz.prog 46 #[.int .u64 N] w (RetT (uB N) 10 w) := (specPutU w N hN).mono fun _ _ h => RetT.ofS h (u10 hN)
theorem implPutST (w : World) (N : Int) (hN : I64 N) : Calls Tryz.prog 88 #[.int .i64 N] w (RetT (sB N) 10 w) := (implPutS w N hN).mono fun _ _ h => RetT.ofS h (s10 hN)
theorem specPutST (w : World) (N : Int) (hN : I64 N) : Calls Tryz.prog 47 #[.int .i64 N] w (RetT (sB N) 10 w) := (specPutS w N hN).mono fun _ _ h => RetT.ofS h (s10 hN)
/-- A row's bytes behind a place. -/
def rwO (a : Int) (r : Row) : List UInt8 := uB (r.1 - a).toNat ++ uB (r.2.1 - r.1).toNat ++ sB (r.2.2 - r.2.1)
def rwB : Int → List Row → List UInt8
  | _, [] => []
  | a, r :: rs => rwO a r ++ rwB r.2.1 rs
def endO (a : Int) (l : List Row) : Int := match l.getLast? with | some r => r.2.1 | none => a
theorem endO_snoc (a : Int) (l : List Row) (r : Row) : endO a (l ++ [r]) = r.2.1 := by simp [endO]
theorem rwB_snoc : ∀ (l : List Row) (a : Int) (r : Row), rwB a (l ++ [r]) = rwB a l ++ rwO (endO a l) r
  | [], a, r => by simp [rwB, endO]
  | x :: l, a, r => by
    have e : endO a (x :: l) = endO x.2.1 l := by
      cases l with
      | nil => rfl
      | cons y l =>
        have h := List.getLast?_eq_some_getLast (l := y :: l) (by simp)
        simp only [endO, List.getLast?_cons_cons, h]
    show rwO a x ++ rwB x.2.1 (l ++ [r]) = _
    rw [rwB_snoc l x.2.1 r, e]
    simp [rwB]
theorem endO_0 (l : List Row) : endO 0 l = endOf l := by
  unfold endO endOf
  cases l.getLast? <;> rfl
def rwsB (rows : List Row) : List UInt8 := uB rows.length ++ rwB 0 rows
end Go.Proofs.YtgoinmdnpaknpaaGreat
