/- FoldExpr: walks of both sides. -/
import Derived.Test.YthdpkcmeepabjaaFoldI
import Derived.Test.YthdpkcmeepabjaaFoldS
import Derived.Test.YthdpkcmeepabjaaKit1
import Derived.Test.YthdpkcmeepabjaaExprG
import Derived.Test.YthdpkcmeepabjaaLowA
set_option linter.unusedVariables false
set_option linter.unusedSimpArgs false
set_option maxRecDepth 100000
namespace Go.Proofs.Ythdpkcmeepabjaa
open Go.RowKit
theorem TokRow.sl {w : World} {b : Nat} {A : Option Addr} {n c : Nat} {l : List Tok} (h : TokRow w b (.slice A n c) l) (hok : ∀ t, t ∈ l → okIns t) : Sl TokR w 0 w.heap.size A n c l := by
  unfold TokRow at h
  exact OwnSl.sl (own_flat (R := TokR) h fun x hx => tok_own (hok x hx))
theorem sl_toks_ok {w : World} {lo hi n c : Nat} {A : Option Addr} {l : List Tok} (h : Sl TokR w lo hi A n c l) : ∀ t, t ∈ l → okIns t := by
  intro t ht
  obtain ⟨i, hi, rfl⟩ := List.getElem_of_mem ht
  obtain ⟨_, _, x0, x1, _, _, _, e, i0, i1, _⟩ := Tok_at h (k := i) (by rw [← h.lenEq]; exact hi)
  rw [e]; exact ⟨i0, i1⟩
def ps5 : List Int := [0, 0, 0, 0, 0]
def goodT (l : List Tok) : Bool := decide (0 < highF l 6 ps5)
def foldR (l : List Tok) : List Tok := if goodT l = true then foldF l else []
theorem foldR_yes {l : List Tok} (h : goodT l = true) : foldR l = foldF l := if_pos h
theorem foldR_no {l : List Tok} (h : goodT l = false) : foldR l = [] := if_neg (by simp [h])
theorem tokB_sm {t : Tok} {v f : Int} (h : tokB t v f = true) (hi : okIns t) : I64 t.1 ∧ I64 t.2 ∧ (t.1 = 1 → I32 t.2) := by
  refine ⟨hi.1, hi.2, fun h1 => ?_⟩
  unfold tokB at h
  rw [if_pos h1] at h
  exact inB_iff.1 h
theorem high_sm {l : List Tok} {v : Int} {ps : List Int} (h : 0 < highF l v ps) (hi : ∀ t, t ∈ l → okIns t) : smT l := fun t ht => tokB_sm ((highF_toks h).2 t ht) (hi t ht)
theorem foldOnce_sm : ∀ {l l' : List Tok}, smT l → foldOnce l = some l' → smT l'
  | a :: b :: c :: r, l', h, e => by
    unfold foldOnce at e
    split at e
    · injection e with e
      have := smT_fold (l := a :: b :: c :: r) (k := 0) (a := a) (b := b) (c := c) h
      rw [← e]; exact this
    · cases e2 : foldOnce (b :: c :: r) with
      | none => rw [e2] at e; simp at e
      | some x =>
        rw [e2] at e
        simp only [Option.map_some, Option.some.injEq] at e
        subst e
        have ih := foldOnce_sm (fun t ht => h t (List.mem_cons_of_mem _ ht)) e2
        intro t ht
        rcases List.mem_cons.1 ht with rfl | ht
        · exact h t (List.mem_cons_self ..)
        · exact ih t ht
  | [], _, _, e => by simp [foldOnce] at e
  | [_], _, _, e => by simp [foldOnce] at e
  | [_, _], _, _, e => by simp [foldOnce] at e
theorem foldF_sm : ∀ (f : Nat) (l : List Tok), smT l → smT (foldAll f l)
  | 0, l, h => h
  | f + 1, l, h => by
    unfold foldAll
    cases e : foldOnce l with
    | none => exact h
    | some l' => exact foldF_sm f l' (foldOnce_sm h e)
set_option maxHeartbeats 4000000 in
theorem specL13Expr (w : World) (lo hi : Nat) (A : Option Addr) (n c : Nat) (l : List Tok) (h : Sl TokR w lo hi A n c l) (hh : hi ≤ w.heap.size) (hn : n ≤ 12) (hsm : smT l) :
    Calls Try.prog 85 #[.slice A n c] w (RetTok (foldF l) w) := by
  have HSM := Lib.hid hsm
  have HL := Lib.hid h.lenEq
  obtain ⟨inf, hif, hz0, hz1, hz2⟩ := info_parts Try.infoTok2
  have hs2 := src_toks ((h.more (Nat.zero_le lo) hh).below (show Below w.heap.size w (w.alloc (.cells #[] 202)) by (repeat (first | with_reducible exact Below.refl _ _ | with_reducible assumption | with_reducible refine below_alloc ?_ _ | ((with_reducible refine Below.setCell ?_ ?_ _); rotate_left; (· first | exact Nat.le_refl _ | (simp; done) | (simp; omega))) | with_reducible refine below_drewN ?_ _ | with_reducible refine Below.drew ?_ | with_reducible refine below_then ?_ (by with_reducible assumption)))) (Nat.le_refl _))
  clear hsm
  go_enter Try.func85, Try.ntmps85
  go_wp2_with (at_builtin; refine wpList_append_src _ rfl _ _ 117 rfl w.heap.size 202 inf (.agg #[.int .i64 0, .int .i64 0]) 2 16 Try.underlying117 hif hz0 hz1 hz2 rfl (by decide) (.slice (some ⟨w.heap.size, 0, none⟩) 0 0) 0 [] rfl (World.ownsRow_made w #[] 0 (Nat.le_refl _) (by decide) (by simp)) A n c (encL insV l) rfl hs2 (encL_one' insV_one) (by unfold maxLen; omega) (by omega) (by simp) ?_)
  intro v' w' hown hgr hat
  have hown : TokRow w' w.heap.size v' l := by unfold TokRow; rw [HL.out]; simpa using hown
  have hb : Below w.heap.size w w' := (show Below w.heap.size w (w.alloc (.cells #[] 202)) by (repeat (first | with_reducible exact Below.refl _ _ | with_reducible assumption | with_reducible refine below_alloc ?_ _ | ((with_reducible refine Below.setCell ?_ ?_ _); rotate_left; (· first | exact Nat.le_refl _ | (simp; done) | (simp; omega))) | with_reducible refine below_drewN ?_ _ | with_reducible refine Below.drew ?_ | with_reducible refine below_then ?_ (by with_reducible assumption)))).grown hgr (by simp) (fun g hg => by simp [Value.ownBlock] at hg; omega)
  obtain ⟨A0, m0, c0, rfl, hm0⟩ := tokRow_form hown
  have HM0 := Lib.hid hm0
  clear hgr hat hm0 hif hz0 hz1 hz2 hs2
  go_wp2_with fail
  go_loopw [3] (fun v wr => ∃ (A1 : Option Addr) (m c1 : Nat) (l' : List Tok), v = .slice A1 m c1 ∧ m = l'.length ∧ foldF l' = foldF l ∧ smT l' ∧ l'.length ≤ 12 ∧ TokRow wr w.heap.size (.slice A1 m c1) l' ∧ Below w.heap.size w wr) (fun v _ => vlen v)
  case atStart => exact ⟨A0, m0, c0, l, rfl, HM0.out, rfl, HSM.out, by have := HL.out; omega, hown, hb⟩
  case round =>
    obtain ⟨A1, m, c1, l', rfl, hm, he0, hs0, hl12, ho, hb⟩ := hrel
    have HE := Lib.hid he0
    have HS := Lib.hid hs0
    have HM := Lib.hid hm
    have hm12 : m ≤ 12 := by omega
    have hsl := ho.sl (smT_ok hs0)
    clear he0 hs0 hm
    go_wp2_with fail
    refine (specL13Fold _ 0 wr.heap.size A1 m c1 l' (hsl.below (show Below wr.heap.size wr _ by (repeat (first | with_reducible exact Below.refl _ _ | with_reducible assumption | with_reducible refine below_alloc ?_ _ | ((with_reducible refine Below.setCell ?_ ?_ _); rotate_left; (· first | exact Nat.le_refl _ | (simp; done) | (simp; omega))) | with_reducible refine below_drewN ?_ _ | with_reducible refine Below.drew ?_ | with_reducible refine below_then ?_ (by with_reducible assumption)))) (Nat.le_refl _)) (by first | omega | (simp; done) | (simp; omega)) hm12 HS.out).mono ?_
    rintro e w2 ⟨v2, rfl, ho2, hb2⟩
    have hx2 : Below wr.heap.size wr w2 := by (repeat (first | with_reducible exact Below.refl _ _ | with_reducible assumption | with_reducible refine below_alloc ?_ _ | ((with_reducible refine Below.setCell ?_ ?_ _); rotate_left; (· first | exact Nat.le_refl _ | (simp; done) | (simp; omega))) | with_reducible refine below_drewN ?_ _ | with_reducible refine Below.drew ?_ | with_reducible refine below_then ?_ (by with_reducible assumption)))
    cases e : foldOnce l' with
    | none =>
      have hfin := Lib.hid (show foldF l = l' by rw [← HE.out]; exact foldF_stop e)
      simp only [e, Option.isSome_none]
      have ho3 := ownsRow_below ho hx2
      obtain ⟨A2, n2, c2, rfl, _⟩ := tokRow_form ho2
      clear e ho2
      go_wp2_with fail
      go_ret
      exact ⟨_, rfl, by rw [hfin.out]; exact ho3, below_then hb hx2⟩
    | some l2 =>
      have hl2 := foldOnce_len e
      have HE2 := Lib.hid (show foldF l2 = foldF l by rw [← HE.out]; exact (foldF_step e).symm)
      have HS2 := Lib.hid (foldOnce_sm HS.out e)
      simp only [e, Option.isSome_some, Option.getD_some] at ho2 ⊢
      obtain ⟨A2, n2, c2, rfl, hn2⟩ := tokRow_form ho2
      have hzz := hb.size
      have ho3 := World.ownsRow.mono ho2 (show w.heap.size ≤ wr.heap.size from hzz)
      have hnn : n2 < m := by have := HM.out; omega
      have HN2 := Lib.hid hn2
      clear e ho2 hl2 hn2
      go_wp2_with fail
      go_roundw
      case rel => exact ⟨A2, n2, c2, l2, rfl, HN2.out, HE2.out, HS2.out, by have := HN2.out; omega, ho3, below_then hb hx2⟩
      case measure => simp [vlen]; omega
theorem foldl_nn {vars : Int} {ps : List Int} : ∀ (e : List Tok) (s : Option (Int × Int)), (∀ h c, s = some (h, c) → 0 ≤ h) → ∀ h c, e.foldl (stepH vars ps) s = some (h, c) → 0 ≤ h
  | [], s, hs, h, c, e => hs h c e
  | t :: e, s, hs, h, c, he => by
    refine foldl_nn e (stepH vars ps s t) ?_ h c he
    intro h' c' e'
    cases s with
    | none => simp [stepH] at e'
    | some p =>
      obtain ⟨a, b⟩ := p
      have := hs a b rfl
      simp only [stepH] at e'
      split at e'
      · injection e' with e'
        injection e' with e1 e2
        rw [← e1]
        exact Int.le_trans this (Int.le_max_left ..)
      · cases e'
theorem highF_nn (l : List Tok) (v : Int) (ps : List Int) : 0 ≤ highF l v ps := by
  unfold highF
  split
  · cases hf : foldH v ps l with
    | none => exact Int.le_refl _
    | some p =>
      obtain ⟨h, c⟩ := p
      simp only
      split
      · exact foldl_nn l (some (0, 0)) (by intro h c e; injection e with e; injection e with e1 e2; omega) h c hf
      · exact Int.le_refl _
  · exact Int.le_refl _
theorem ps5_good : goodNeeds ps5 := by unfold goodNeeds ps5; simp
theorem goodE_T (l : List Tok) : goodE l 6 ps5 = goodT l := by unfold goodE goodT; rw [show inB (6 : Int) 0 6 = true by decide, show parB ps5 = true by decide]; rfl
theorem made5 {w w1 : World} (h : w1.ownsRow 0 3 1 (.slice (some ⟨w.heap.size, 0, none⟩) 5 5) 5 (madeCells #[.int .i64 0] 5).toList) : Sl intR w1 0 w1.heap.size (some ⟨w.heap.size, 0, none⟩) 5 5 ps5 := by
  rw [toList_madeCells_one, ← List.map_replicate (f := Value.int .i64) (a := 0)] at h
  exact OwnSl.sl (own_ints (l := ps5) h (by unfold ps5 I64; simp))
theorem RetTok.ownB {l : List Tok} {w W w' : World} {v : Value} (h : RetTok l W (.returned v) w') (hok : smT l) (hw : Below w.heap.size w W) (hz : w.heap.size ≤ W.heap.size) {b b' : Bool} (hb : b' = b) {l' : List Tok} (hl : l' = l) : RetOwnB TokR 202 l' b w (.returned (.tuple #[v, .bool b'])) w' := by
  subst hl
  obtain ⟨F, A, n, c, e, ho, hF, hbl⟩ := h.own (smT_ok hok)
  injection e with e
  subst e
  exact RetOwnB.mk ho (fun k hk => by have := hF k hk; omega) hb (below_then hw hbl)
theorem foldR_len (l : List Tok) : (foldR l).length ≤ l.length := by unfold foldR; split; exact foldF_len l; simp
end Go.Proofs.Ythdpkcmeepabjaa
