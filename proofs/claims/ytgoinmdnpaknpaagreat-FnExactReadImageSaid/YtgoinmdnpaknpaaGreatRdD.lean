/- Rows read back from their bytes: plain law. -/
import Derived.Test.YtgoinmdnpaknpaaGreatRdC
set_option linter.unusedVariables false
set_option linter.unusedSimpArgs false
namespace Go.Proofs.YtgoinmdnpaknpaaGreat
open Go.RowKit
/-- What has been read so far of whatever rows stand at x0. -/
def RFol (s : ByteArray) (x0 : Int) (ok0 : Bool) (many x : Int) (ok : Bool) (M : List Row → Prop) (rem : List Row → List UInt8) : Prop :=
  (ok = true → ok0 = true ∧ 0 ≤ x0 ∧ x0 < x ∧ x ≤ (s.size : Int) ∧ s.size ≤ 2000) ∧ ∀ (r : List Row) (l : List UInt8) (e : Nat), r.length ≤ 300 → many ≤ 300 → rowsB r many = true → Tg s x0 (rwsB r ++ l) e → ok0 = true → ok = true ∧ M r ∧ Tg s x (rem r ++ l) e
theorem RFol.num {s : ByteArray} {x0 many x n x' most : Int} {ok0 ok ok' : Bool} {M M' : List Row → Prop} {rem rem' : List Row → List UInt8} (h : RFol s x0 ok0 many x ok M rem) (hn : NumP s x ok most n x' ok') (f : List Row → Nat)
    (hf : ∀ r, r.length ≤ 300 → many ≤ 300 → rowsB r many = true → M r → rem r = uB (f r) ++ rem' r ∧ (f r : Int) ≤ most ∧ (n = (f r : Int) → M' r)) : RFol s x0 ok0 many x' ok' M' rem' := by
  refine ⟨fun h1 => ?_, fun r l e k1 k2 k3 ht k4 => ?_⟩
  · obtain ⟨h2, h3, h4, h5⟩ := hn.1 h1
    obtain ⟨h6, h7⟩ := h.1 h2
    exact ⟨h6, by omega⟩
  · obtain ⟨h1, h2, h3⟩ := h.2 r l e k1 k2 k3 ht k4
    obtain ⟨h4, h5, h6⟩ := hf r k1 k2 k3 h2
    rw [h4, List.append_assoc] at h3
    obtain ⟨h7, h8, h9⟩ := hn.2 _ _ _ h5 h3 h1
    exact ⟨h8, h6 h7, h9⟩
theorem RFol.sg {s : ByteArray} {x0 many x n x' : Int} {ok0 ok ok' : Bool} {M M' : List Row → Prop} {rem rem' : List Row → List UInt8} (h : RFol s x0 ok0 many x ok M rem) (hn : SgP s x ok n x' ok') (f : List Row → Int)
    (hf : ∀ r, r.length ≤ 300 → many ≤ 300 → rowsB r many = true → M r → rem r = sB (f r) ++ rem' r ∧ I64 (f r) ∧ (n = f r → M' r)) : RFol s x0 ok0 many x' ok' M' rem' := by
  refine ⟨fun h1 => ?_, fun r l e k1 k2 k3 ht k4 => ?_⟩
  · obtain ⟨h2, h3, h4, h5⟩ := hn.1 h1
    obtain ⟨h6, h7⟩ := h.1 h2
    exact ⟨h6, by omega⟩
  · obtain ⟨h1, h2, h3⟩ := h.2 r l e k1 k2 k3 ht k4
    obtain ⟨h4, h5, h6⟩ := hf r k1 k2 k3 h2
    rw [h4, List.append_assoc] at h3
    obtain ⟨h7, h8, h9⟩ := hn.2 _ _ _ h5 h3 h1
    exact ⟨h8, h6 h7, h9⟩
def MR (l : List Row) (cnt : Int) (r : List Row) : Prop := l = r.take l.length ∧ (l.length : Int) + cnt = r.length
def rmR (l : List Row) (r : List Row) : List UInt8 := rwB (endOf l) (r.drop l.length)
theorem RFol.many {s : ByteArray} {x0 many n x' most : Int} {ok0 ok' : Bool} (hn : NumP s x0 ok0 most n x' ok') (h2 : 300 ≤ most) : RFol s x0 ok0 many x' ok' (MR [] n) (rmR []) := by
  refine ⟨fun h1 => ?_, fun r l e k1 k2 k3 ht k4 => ?_⟩
  · obtain ⟨h2, h3, h4, h5⟩ := hn.1 h1
    exact ⟨h2, by omega⟩
  · unfold rwsB at ht
    rw [List.append_assoc] at ht
    obtain ⟨h7, h8, h9⟩ := hn.2 _ _ _ (by omega) ht k4
    exact ⟨h8, ⟨by simp, by simp only [List.length_nil]; omega⟩, h9⟩
/-- The row that is read next. -/
def rwK (l r : List Row) : Row := r.getD l.length (0, 0, 0)
theorem rwK_at {l r : List Row} {cnt many : Int} (h : MR l cnt r) (hc : 0 < cnt) (hr : rowsB r many = true) : ∃ hl : l.length < r.length, rwK l r = r[l.length] ∧ 0 ≤ endOf l ∧ endOf l ≤ (rwK l r).1 ∧ (rwK l r).1 < (rwK l r).2.1 ∧ (rwK l r).2.1 ≤ many ∧ 0 ≤ (rwK l r).2.2 ∧ (rwK l r).2.2 ≤ many - 1 := by
  obtain ⟨h1, h2⟩ := h
  have hl : l.length < r.length := by omega
  have e : rwK l r = r[l.length] := by unfold rwK; rw [List.getD_eq_getElem?_getD, List.getElem?_eq_getElem hl]; rfl
  have h3 := rowOk_at hr (k := l.length) (x := (rwK l r).1) (y := (rwK l r).2.1) (z := (rwK l r).2.2) hl (by rw [e])
  have h4 := endOf_gr hr l.length (by omega)
  rw [← h1] at h3 h4
  exact ⟨hl, e, h4, h3⟩
theorem rmR_at {l r : List Row} (hl : l.length < r.length) (e : rwK l r = r[l.length]) : rmR l r = rwO (endOf l) (rwK l r) ++ rwB (rwK l r).2.1 (r.drop (l.length + 1)) := by
  unfold rmR
  rw [List.drop_eq_getElem_cons hl, ← e]
  rfl
def MG (l : List Row) (cnt g : Int) (r : List Row) : Prop := MR l cnt r ∧ g = (rwK l r).1 - endOf l
def rmG (l r : List Row) : List UInt8 := uB ((rwK l r).2.1 - (rwK l r).1).toNat ++ (sB ((rwK l r).2.2 - (rwK l r).2.1) ++ rwB (rwK l r).2.1 (r.drop (l.length + 1)))
theorem RFol.gap {s : ByteArray} {x0 many x n cnt x' most : Int} {ok0 ok ok' : Bool} {l : List Row} (h : RFol s x0 ok0 many x ok (MR l cnt) (rmR l)) (hc : 0 < cnt) (hn : NumP s x ok most n x' ok') (h2 : 300 ≤ most) : RFol s x0 ok0 many x' ok' (MG l cnt n) (rmG l) := by
  refine h.num hn (fun r => ((rwK l r).1 - endOf l).toNat) fun r k1 k2 k3 hm => ?_
  obtain ⟨hl, e, q0, q1, q2, q3, q4, q5⟩ := rwK_at hm hc k3
  refine ⟨?_, by omega, fun h => ⟨hm, by omega⟩⟩
  rw [rmR_at hl e]; unfold rwO rmG; simp
def MG2 (l : List Row) (cnt g lg : Int) (r : List Row) : Prop := MG l cnt g r ∧ lg = (rwK l r).2.1 - (rwK l r).1
def rmH (l r : List Row) : List UInt8 := sB ((rwK l r).2.2 - (rwK l r).2.1) ++ rwB (rwK l r).2.1 (r.drop (l.length + 1))
theorem RFol.long {s : ByteArray} {x0 many x n cnt g x' most : Int} {ok0 ok ok' : Bool} {l : List Row} (h : RFol s x0 ok0 many x ok (MG l cnt g) (rmG l)) (hc : 0 < cnt) (hn : NumP s x ok most n x' ok') (h2 : 300 ≤ most) : RFol s x0 ok0 many x' ok' (MG2 l cnt g n) (rmH l) := by
  refine h.num hn (fun r => ((rwK l r).2.1 - (rwK l r).1).toNat) fun r k1 k2 k3 hm => ?_
  obtain ⟨hl, e, q0, q1, q2, q3, q4, q5⟩ := rwK_at hm.1 hc k3
  exact ⟨rfl, by omega, fun h => ⟨hm, by omega⟩⟩
def MG3 (l : List Row) (cnt g lg by_ : Int) (r : List Row) : Prop := MG2 l cnt g lg r ∧ by_ = (rwK l r).2.2 - (rwK l r).2.1
def rmI (l r : List Row) : List UInt8 := rwB (rwK l r).2.1 (r.drop (l.length + 1))
theorem RFol.pad {s : ByteArray} {x0 many x n cnt g lg x' : Int} {ok0 ok ok' : Bool} {l : List Row} (h : RFol s x0 ok0 many x ok (MG2 l cnt g lg) (rmH l)) (hc : 0 < cnt) (hn : SgP s x ok n x' ok') : RFol s x0 ok0 many x' ok' (MG3 l cnt g lg n) (rmI l) := by
  refine h.sg hn (fun r => (rwK l r).2.2 - (rwK l r).2.1) fun r k1 k2 k3 hm => ?_
  obtain ⟨hl, e, q0, q1, q2, q3, q4, q5⟩ := rwK_at hm.1.1 hc k3
  exact ⟨rfl, by unfold I64; omega, fun h => ⟨hm, h⟩⟩
/-- The row is put to the others; whatever the target says, its numbers are small. -/
theorem RFol.row {s : ByteArray} {x0 many x cnt g lg by_ a b c : Int} {ok0 ok ok' : Bool} {l : List Row} (h : RFol s x0 ok0 many x ok (MG3 l cnt g lg by_) (rmI l)) (hc : 0 < cnt)
    (h1 : ok' = true → ok = true) (h2 : 0 ≤ g → g ≤ 300 → 0 ≤ lg → lg ≤ 300 → -300 ≤ by_ → by_ ≤ 300 → ok = true → ok' = true ∧ a = endOf l + g ∧ b = a + lg ∧ c = b + by_) : RFol s x0 ok0 many x ok' (MR (l ++ [(a, b, c)]) (cnt - 1)) (rmR (l ++ [(a, b, c)])) := by
  refine ⟨fun h3 => h.1 (h1 h3), fun r t e k1 k2 k3 ht k4 => ?_⟩
  obtain ⟨h3, h4, h5⟩ := h.2 r t e k1 k2 k3 ht k4
  obtain ⟨⟨⟨hm, m1⟩, m2⟩, m3⟩ := h4
  obtain ⟨hl, e1, q0, q1, q2, q3, q4, q5⟩ := rwK_at hm hc k3
  obtain ⟨h6, ha, hb, hc2⟩ := h2 (by omega) (by omega) (by omega) (by omega) (by omega) (by omega) h3
  have e2 : (a, b, c) = rwK l r := by
    obtain ⟨⟨y0, y1, y2⟩, hk⟩ : ∃ z, rwK l r = z := ⟨_, rfl⟩
    rw [hk] at m1 m2 m3
    simp only at m1 m2 m3
    rw [hk, Prod.mk.injEq, Prod.mk.injEq]; omega
  refine ⟨h6, ⟨?_, ?_⟩, ?_⟩
  · rw [List.length_append, List.length_singleton, List.take_succ_eq_append_getElem hl, ← hm.1, e2, e1]
  · rw [List.length_append, List.length_singleton]; have := hm.2; omega
  · unfold rmR
    rw [endOf_snoc, List.length_append, List.length_singleton, e2]
    exact h5
theorem RFol.done {s : ByteArray} {x0 many x cnt : Int} {ok0 ok ok' : Bool} {l : List Row} (h : RFol s x0 ok0 many x ok (MR l cnt) (rmR l)) (hc : ok = true → cnt ≤ 0) (h1 : ok' = true → ok = true) (h2 : ok = true → rowsB l many = true → ok' = true) : RowsP s x0 ok0 many l x ok' := by
  refine ⟨fun h3 => h.1 (h1 h3), fun r t e k1 k2 k3 ht k4 => ?_⟩
  obtain ⟨h3, ⟨m1, m2⟩, h5⟩ := h.2 r t e k1 k2 k3 ht k4
  have h4 := hc h3
  have h6 := congrArg List.length m1
  rw [List.length_take] at h6
  have h7 : r.length ≤ l.length := by omega
  have h8 : l = r := by rw [List.take_of_length_le h7] at m1; exact m1
  unfold rmR at h5
  rw [List.drop_of_length_le h7] at h5
  refine ⟨h8, h2 h3 (h8 ▸ k3), h5⟩
theorem RFol.off {s : ByteArray} {x0 many x x' : Int} {ok0 ok : Bool} {M M' : List Row → Prop} {rem rem' : List Row → List UInt8} (h : RFol s x0 ok0 many x ok M rem) (hm : ∀ r, r.length ≤ 300 → many ≤ 300 → rowsB r many = true → M r → ok = true → False) : RFol s x0 ok0 many x' false M' rem' :=
  ⟨fun h => by simp at h, fun r t e k1 k2 k3 ht k4 => by obtain ⟨g1, g2, _⟩ := h.2 r t e k1 k2 k3 ht k4; exact (hm r k1 k2 k3 g2 g1).elim⟩
theorem NumP.and {s : ByteArray} {x n x' most : Int} {ok1 : Bool} (h : NumP s x true most n x' ok1) (b : Bool) : NumP s x b most n x' (b && ok1) := by
  refine ⟨fun h1 => ?_, fun m l e h1 h2 h3 => ?_⟩
  · rw [Bool.and_eq_true] at h1; exact ⟨h1.1, (h.1 h1.2).2⟩
  · subst h3
    obtain ⟨g1, g2, g3⟩ := h.2 m l e h1 h2 rfl
    exact ⟨g1, by rw [g2]; rfl, g3⟩
theorem SgP.and {s : ByteArray} {x n x' : Int} {ok1 : Bool} (h : SgP s x true n x' ok1) (b : Bool) : SgP s x b n x' (b && ok1) := by
  refine ⟨fun h1 => ?_, fun m l e h1 h2 h3 => ?_⟩
  · rw [Bool.and_eq_true] at h1; exact ⟨h1.1, (h.1 h1.2).2⟩
  · subst h3
    obtain ⟨g1, g2, g3⟩ := h.2 m l e h1 h2 rfl
    exact ⟨g1, by rw [g2]; rfl, g3⟩
theorem RFol.bad {s : ByteArray} {x0 many x x' : Int} {ok0 ok : Bool} {M : List Row → Prop} {rem : List Row → List UInt8} {l : List Row} (h : RFol s x0 ok0 many x ok M rem) (hm : ∀ r, r.length ≤ 300 → many ≤ 300 → rowsB r many = true → M r → False) : RowsP s x0 ok0 many l x' false :=
  ⟨fun h => by simp at h, fun r t e k1 k2 k3 ht k4 => (hm r k1 k2 k3 (h.2 r t e k1 k2 k3 ht k4).2.1).elim⟩
theorem RFol.dead {s : ByteArray} {x0 many x x' : Int} {ok0 : Bool} {M : List Row → Prop} {rem : List Row → List UInt8} {l : List Row} (h : RFol s x0 ok0 many x false M rem) : RowsP s x0 ok0 many l x' false :=
  ⟨fun h => by simp at h, fun r t e k1 k2 k3 ht k4 => by have := (h.2 r t e k1 k2 k3 ht k4).1; simp at this⟩
/-- What the readers of numbers tell, as the reader's number tells it. -/
theorem numP_of {s : ByteArray} {x n en : Int} {ok : Bool} (h1 : ok = true → 0 ≤ x ∧ x < en ∧ en ≤ (s.size : Int) ∧ s.size ≤ 2000 ∧ SndI s x n en) (h2 : ∀ (a m : Nat), x = (a : Int) → s.size ≤ 2000 → m < 18446744073709551616 → Stt s a (uB m) → ok = true ∧ n = (m : Int) ∧ en = (a : Int) + ((uB m).length : Int)) : NumP s x true 18446744073709551615 n en ok := by
  refine ⟨fun h => ⟨rfl, h1 h⟩, fun m l e hm ht _ => ?_⟩
  obtain ⟨t, rfl, h3, h4, h5⟩ := ht.step
  obtain ⟨h6, h7, h8⟩ := h2 t m rfl h3 (by omega) h4
  exact ⟨h7, h6, h8 ▸ h5⟩
theorem sgP_of {s : ByteArray} {x n en : Int} {ok : Bool} (h1 : ok = true → 0 ≤ x ∧ x < en ∧ en ≤ (s.size : Int) ∧ s.size ≤ 2000) (h2 : ∀ (a : Nat) (m : Int), x = (a : Int) → s.size ≤ 2000 → I64 m → Stt s a (sB m) → ok = true ∧ n = m ∧ en = (a : Int) + ((sB m).length : Int)) : SgP s x true n en ok := by
  refine ⟨fun h => ⟨rfl, h1 h⟩, fun m l e hm ht _ => ?_⟩
  obtain ⟨t, rfl, h3, h4, h5⟩ := ht.step
  obtain ⟨h6, h7, h8⟩ := h2 t m rfl h3 hm h4
  exact ⟨h7, h6, h8 ▸ h5⟩
/-- A reader's number: out of the bounds is none. -/
theorem NumP.most {s : ByteArray} {x n en most : Int} {ok ok1 : Bool} {k : Int} (h : NumP s x true 18446744073709551615 n en ok1) (hm : most ≤ 18446744073709551615) (hy : ok = true → ok1 = true → n ≤ most → k = n) {en' : Int} {ok' : Bool}
    (h1 : ok' = true → ok = true ∧ ok1 = true ∧ en' = en) (h2 : ok = true → ok1 = true → n ≤ most → ok' = true) (h9 : ok' = true → k = n := by first | (intro _; rfl) | simp) : NumP s x ok most k en' ok' := by
  refine ⟨fun h3 => ?_, fun m l e hm2 ht h0 => ?_⟩
  · obtain ⟨h4, h5, rfl⟩ := h1 h3
    exact ⟨h4, h9 h3 ▸ (h.1 h5).2⟩
  · obtain ⟨h3, h4, h5⟩ := h.2 m l e (by omega) ht rfl
    have h6 := h2 h0 h4 (by omega)
    obtain ⟨_, _, rfl⟩ := h1 h6
    exact ⟨by rw [hy h0 h4 (by omega), h3], h6, h5⟩
theorem SgP.with {s : ByteArray} {x n en : Int} {ok ok1 : Bool} {k : Int} (h : SgP s x true n en ok1) (hy : ok = true → ok1 = true → k = n) {en' : Int} {ok' : Bool}
    (h1 : ok' = true → ok = true ∧ ok1 = true ∧ en' = en) (h2 : ok = true → ok1 = true → ok' = true) : SgP s x ok k en' ok' := by
  refine ⟨fun h3 => ?_, fun m l e hm2 ht h0 => ?_⟩
  · obtain ⟨h4, h5, rfl⟩ := h1 h3
    exact ⟨h4, (h.1 h5).2⟩
  · obtain ⟨h3, h4, h5⟩ := h.2 m l e hm2 ht rfl
    have h6 := h2 h0 h4
    obtain ⟨_, _, rfl⟩ := h1 h6
    exact ⟨by rw [hy h0 h4, h3], h6, h5⟩
end Go.Proofs.YtgoinmdnpaknpaaGreat
