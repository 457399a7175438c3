/- Heights under way: what the loops of both sides keep. Plain law. -/
import Derived.Test.YtgoinmdnpaknpaaGreatCheckP
set_option linter.unusedVariables false
set_option linter.unusedSimpArgs false
namespace Go.Proofs.YtgoinmdnpaknpaaGreat
open Go.RowKit
theorem mem_take_succ {α : Type} {l : List α} {k : Nat} (hk : k < l.length) {s : α} (h : s ∈ l.take (k + 1)) : s ∈ l.take k ∨ s = l[k] := by
  rw [List.take_succ_eq_append_getElem hk] at h
  rcases List.mem_append.1 h with h | h
  · exact Or.inl h
  · exact Or.inr (by simpa using h)
theorem mem_rot {l : List Int} {q s : Int} : s ∈ l ++ [q] ↔ s ∈ q :: l := by
  simp only [List.mem_append, List.mem_cons, List.not_mem_nil, or_false]; exact Or.comm
theorem hv_lt {h : List Int} {p : Int} (h0 : 0 ≤ p) (h1 : p.toNat < h.length) : hv h p = h[p.toNat] := by
  have := hv_get h1
  rwa [show ((p.toNat : Nat) : Int) = p by omega] at this
/-- Places that wait, one more. -/
theorem InvH.meetI {x : Image} {I : List Ins} {rows : List Row} {h pend : List Int} (hi : InvH x I rows h pend) {p v : Int} (h0 : 0 ≤ p) (hp : p.toNat < I.length) (hn : hv h p < 0) (hv0 : 0 ≤ v) (hv1 : v ≤ 40) (hr : ReachH I rows p)
    (hf : ∀ g, ConsH x I rows g → hv g p = v) : InvH x I rows (h.set p.toNat v) (pend ++ [p]) ∧ unmet (h.set p.toNat v) + 1 = unmet h := by
  have e : ((p.toNat : Nat) : Int) = p := by omega
  have hl : p.toNat < h.length := by rw [hi.len]; exact hp
  refine ⟨hi.meet (p := p.toNat) hl (by rw [e]; exact hn) hv0 hv1 (by rw [e]; exact hr) (fun g hg => by rw [e]; exact hf g hg) (fun q => ?_), ?_⟩
  · rw [e]; simp
  · refine unmet_set hl ?_ hv0
    rw [← hv_lt h0 hl]; exact hn
theorem hv_setI {h : List Int} {p v : Int} (h0 : 0 ≤ p) (hp : p.toNat < h.length) (q : Int) : hv (h.set p.toNat v) q = if q = p then v else hv h q := by
  have := hv_set (v := v) hp q
  rwa [show ((p.toNat : Nat) : Int) = p by omega] at this
section
variable {x : Image} {I : List Ins} {rows : List Row} {hs os : List Int}
/-- The pads of the first k rows are met. -/
structure PadSt (x : Image) (I : List Ins) (rows : List Row) (k : Nat) (h o : List Int) : Prop where
  inv : InvH x I rows h o
  z : hv h 0 = 0
  pads : ∀ r, r ∈ rows.take k → hv h r.2.2 = 0
  flat : ∀ p, hv h p ≤ 0
  cnt : unmet h + o.length = I.length
theorem unmet_start : ∀ n : Nat, 1 ≤ n → unmet ((List.replicate n (-1)).set 0 0) + 1 = n
  | n + 1, _ => by
    unfold unmet
    simp [List.replicate_succ, List.countP_replicate]
theorem PadSt.start (hn : 1 ≤ I.length) : PadSt x I rows 0 ((List.replicate I.length (-1)).set 0 0) [0] := by
  have h0 : ∀ p, hv ((List.replicate I.length (-1)).set 0 0) p = if p = 0 then 0 else hv (List.replicate I.length (-1)) p := fun p => by
    have := hv_set (h := List.replicate I.length (-1)) (p := 0) (v := 0) (by simp; omega) p
    simpa using this
  have h1 : ∀ p, hv (List.replicate I.length (-1)) p ≤ 0 := fun p => by
    unfold hv
    split
    · rcases Nat.lt_or_ge p.toNat I.length with h | h
      · simp [List.getD, h]
      · simp [List.getD, List.getElem?_eq_none, h]
    · omega
  refine ⟨InvH.start hn, by rw [h0]; simp, fun r hr => by simp at hr, fun p => ?_, by simpa using unmet_start I.length hn⟩
  rw [h0]; split
  · omega
  · exact h1 p
theorem PadSt.old {k : Nat} {r : Row} (h : PadSt x I rows k hs os) (hk : k < rows.length) (hr : rows[k] = r) (h0 : 0 ≤ hv hs r.2.2) : PadSt x I rows (k + 1) hs os :=
  ⟨h.inv, h.z, fun q hq => by
    rcases mem_take_succ hk hq with h1 | h1
    · exact h.pads q h1
    · subst h1; rw [hr]; have := h.flat r.2.2; omega, h.flat, h.cnt⟩
theorem PadSt.new {k : Nat} {r : Row} (h : PadSt x I rows k hs os) (hk : k < rows.length) (hr : rows[k] = r) (hn : hv hs r.2.2 < 0) (h0 : 0 ≤ r.2.2) (h1 : r.2.2.toNat < I.length) : PadSt x I rows (k + 1) (hs.set r.2.2.toNat 0) (os ++ [r.2.2]) := by
  have hm : r ∈ rows := hr ▸ List.getElem_mem hk
  obtain ⟨a, b⟩ := h.inv.meetI h0 h1 hn (Int.le_refl 0) (by omega) (.pad hm) (fun g hg => hg.pad r hm)
  have e := hv_setI (v := 0) h0 (show r.2.2.toNat < hs.length by rw [h.inv.len]; exact h1)
  refine ⟨a, ?_, fun q hq => ?_, fun q => ?_, by have := h.cnt; simp; omega⟩
  · rw [e]; split
    · rfl
    · exact h.z
  · rw [e]; split
    · rfl
    · rename_i hne
      rcases mem_take_succ hk hq with h2 | h2
      · exact h.pads q h2
      · exact absurd (by rw [h2, hr]) hne
  · rw [e]; split
    · omega
    · exact h.flat q
/-- What is met at a place stays as it is put there again. -/
theorem PadSt.same {k : Nat} (h : PadSt x I rows k hs os) {p : Int} (h0 : 0 ≤ hv hs p) : hs.set p.toNat 0 = hs := by
  obtain ⟨a, b⟩ := hv_pos h0
  have e := hv_lt a b
  have := h.flat p
  have e2 : hs[p.toNat] = 0 := by omega
  rw [← e2]; exact List.set_getElem_self b
/-- Between two places that are done. -/
structure RunSt (x : Image) (I : List Ins) (rows : List Row) (h pend : List Int) : Prop where
  inv : InvH x I rows h pend
  z : hv h 0 = 0
  pads : ∀ r, r ∈ rows → hv h r.2.2 = 0
theorem RunSt.more (h : RunSt x I rows hs os) {os' : List Int} (hsub : ∀ q, q ∈ os → q ∈ os') (hsup : ∀ q, q ∈ os' → q ∈ os) : RunSt x I rows hs os' := ⟨h.inv.more hsub hsup, h.z, h.pads⟩
theorem PadSt.run (h : PadSt x I rows rows.length hs os) : RunSt x I rows hs os := ⟨h.inv, h.z, fun r hr => h.pads r (by rwa [List.take_of_length_le (Nat.le_refl _)])⟩
theorem RunSt.sol (h : RunSt x I rows hs []) : heightsF x I rows = some hs := heightsF_some (h.inv.sol h.z h.pads)
/-- The first k places behind place p are met. -/
structure GoSt (x : Image) (I : List Ins) (rows : List Row) (p H : Int) (k : Nat) (h pend : List Int) : Prop where
  run : RunSt x I rows h pend
  met : 0 ≤ hv h p
  high : highAt x I h p = H
  take : takesF x (I.getD p.toNat (0, 0)) ≤ hv h p
  nx : ∀ s, s ∈ (nextAt I p).take k → hv h s = H
theorem RunSt.go {p : Int} (h : RunSt x I rows hs os) (hp : p ∈ os) (ht : takesF x (I.getD p.toNat (0, 0)) ≤ hv hs p) : GoSt x I rows p (highAt x I hs p) 0 hs os := ⟨h, h.inv.pos p hp, rfl, ht, fun s hs => by simp at hs⟩
theorem RunSt.few {p : Int} (h : RunSt x I rows hs os) (hp : p ∈ os) (ht : hv hs p < takesF x (I.getD p.toNat (0, 0))) : heightsF x I rows = none := h.inv.few (h.inv.pos p hp) ht
section
variable {p H s : Int} {k : Nat}
theorem GoSt.memNext (hk : k < (nextAt I p).length) (hx : (nextAt I p)[k] = s) : s ∈ nextAt I p := hx ▸ List.getElem_mem hk
theorem GoSt.tall (h : GoSt x I rows p H k hs os) (hk : k < (nextAt I p).length) (hH : 40 < H) : heightsF x I rows = none :=
  h.run.inv.tall h.met (List.getElem_mem hk) (by rw [h.high]; exact hH)
theorem GoSt.apart (h : GoSt x I rows p H k hs os) (hk : k < (nextAt I p).length) (hx : (nextAt I p)[k] = s) (h1 : 0 ≤ hv hs s) (h2 : ¬ hv hs s = H) : heightsF x I rows = none :=
  h.run.inv.apart h.met (GoSt.memNext hk hx) h1 (by rw [h.high]; exact h2)
theorem GoSt.old (h : GoSt x I rows p H k hs os) (hk : k < (nextAt I p).length) (hx : (nextAt I p)[k] = s) (h2 : hv hs s = H) : GoSt x I rows p H (k + 1) hs os :=
  ⟨h.run, h.met, h.high, h.take, fun q hq => by
    rcases mem_take_succ hk hq with h1 | h1
    · exact h.nx q h1
    · rw [h1, hx]; exact h2⟩
theorem GoSt.new (h : GoSt x I rows p H k hs os) (hk : k < (nextAt I p).length) (hx : (nextAt I p)[k] = s) (hn : hv hs s < 0) (hH : H ≤ 40) (h0 : 0 ≤ s) (h1 : s.toNat < I.length) : GoSt x I rows p H (k + 1) (hs.set s.toNat H) (os ++ [s]) ∧ unmet (hs.set s.toNat H) + 1 = unmet hs := by
  have hH0 : 0 ≤ H := by
    have a := h.take
    have b := putsF_bd (I.getD p.toNat (0, 0))
    have c := h.high
    unfold highAt at c
    omega
  have hr : ReachH I rows s := .next (h.run.inv.reach p h.met) (GoSt.memNext hk hx)
  obtain ⟨a, b⟩ := h.run.inv.meetI h0 h1 hn hH0 hH hr (fun g hg => by rw [← h.high]; exact h.run.inv.next_val h.met (GoSt.memNext hk hx) g hg)
  have e := hv_setI (v := H) h0 (show s.toNat < hs.length by rw [h.run.inv.len]; exact h1)
  have hsp : ¬ p = s := fun e => by have := h.met; rw [e] at this; omega
  have hold : ∀ q, 0 ≤ hv hs q → hv (hs.set s.toNat H) q = hv hs q := fun q hq => by
    rw [e, if_neg (fun e => by rw [e] at hq; omega)]
  refine ⟨⟨⟨a, ?_, fun r hr => ?_⟩, ?_, ?_, ?_, fun q hq => ?_⟩, b⟩
  · rw [hold 0 (by rw [h.run.z]; exact Int.le_refl _)]; exact h.run.z
  · rw [hold _ (by rw [h.run.pads r hr]; exact Int.le_refl _)]; exact h.run.pads r hr
  · rw [hold p h.met]; exact h.met
  · have := h.high; unfold highAt at this ⊢; rw [hold p h.met]; exact this
  · rw [hold p h.met]; exact h.take
  · rcases mem_take_succ hk hq with h2 | h2
    · rw [hold q (by rw [h.nx q h2]; exact hH0)]; exact h.nx q h2
    · rw [e, if_pos (by rw [h2, hx])]
theorem GoSt.more (h : GoSt x I rows p H k hs os) {os' : List Int} (hsub : ∀ q, q ∈ os → q ∈ os') (hsup : ∀ q, q ∈ os' → q ∈ os) : GoSt x I rows p H k hs os' := ⟨h.run.more hsub hsup, h.met, h.high, h.take, h.nx⟩
/-- A place is done. -/
theorem GoSt.fin (h : GoSt x I rows p H (nextAt I p).length hs os) {pend' : List Int} (hsub : ∀ q, q ∈ os → q ∈ pend' ∨ q = p) (hsup : ∀ q, q ∈ pend' → q ∈ os) : RunSt x I rows hs pend' :=
  ⟨h.run.inv.finish ⟨h.take, fun s hs => by rw [h.high]; exact h.nx s (by rwa [List.take_of_length_le (Nat.le_refl _)])⟩ hsub hsup, h.run.z, h.run.pads⟩
end
end
end Go.Proofs.YtgoinmdnpaknpaaGreat
