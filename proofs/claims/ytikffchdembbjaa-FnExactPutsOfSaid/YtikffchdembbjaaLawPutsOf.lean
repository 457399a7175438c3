/- For every list of notes and every id the program's PutsOf returns what the reference's returns: FnExactPutsOf returns true, and its arguments read as they did. No condition beyond the row's own. -/
import Derived.Test.YtikffchdembbjaaLawKit
import Derived.Test.YtikffchdembbjaaNotesI
set_option linter.unusedVariables false
set_option linter.unusedSimpArgs false
namespace Go.Proofs.Ytikffchdembbjaa
open Go.ChangeShapes Go.WideShapes Go.ChangeAt Go.RowKit
open Go.ChangeMaps (open_string)

set_option maxRecDepth 100000 in
theorem fnPutsOf (w : World) (n c : Nat) (A : Option Addr) (l : List Note) (id : Int) (h : Sl noteR w 0 w.heap.size A n c l) :
    Calls Try.prog 6 #[.slice A n c, .int .i64 id] w (RetB true w) := by
  have e1 := h.lenEq
  have b1 := h.lenLe
  have hE := eqB_true (rfl : sitesRes 1 id l = sitesRes 1 id l)
  have hN := eqB_true (rfl : l = l)
  go_enter Try.func6, Try.ntmps6
  go_wp2_with fail
  refine (lawsSzNoteS _ n c A 1048576 (by omega) (by omega) b1).mono ?_
  rintro e w1 ⟨r, rfl, hr, hb1⟩
  rcases hr with rfl | ⟨hr0, hr⟩
  · go_wp2_with fail
    go_ret
    exact RetB.mk rfl hb1
  have hn : n ≤ 1048576 := by omega
  have hr := Lib.hid hr
  have e1 := Lib.hid e1
  go_wp2_with fail
  refine (lawsToNoteS _ 0 w.heap.size n c A l (h.below hb1 (Nat.le_refl _)) hb1.size hn).mono ?_
  rintro e w2 ⟨F2, A2, n2, c2, rfl, ho2, hF2, hb2'⟩
  have hb2 := below_then hb1 hb2'
  have l2 := Lib.hid ho2.sl.lenEq
  go_wp2_with fail
  refine (specPutsOf _ 0 _ n2 c2 A2 l id ho2.sl (Nat.le_refl _) (by have := l2.out; have := e1.out; omega)).mono ?_
  rintro e w3 ⟨F3, A3, n3, c3, rfl, ho3, hF3, hb3'⟩
  have hb3 := below_then hb2 hb3'
  have ho3B := ho3.lt
  go_wp2_with fail
  refine (lawsToNoteS _ 0 w.heap.size n c A l (h.below hb3 (Nat.le_refl _)) hb3.size hn).mono ?_
  rintro e w4 ⟨F4, A4, n4, c4, rfl, ho4, hF4, hb4'⟩
  have hb4 := below_then hb3 hb4'
  have ho4B := ho4.lt
  have l4 := Lib.hid ho4.sl.lenEq
  have ho3 := ho3.below hb4'
  go_wp2_with fail
  refine (implPutsOf _ 0 _ n4 c4 A4 l id ho4.sl (Nat.le_refl _) (by have := l4.out; have := e1.out; omega)).mono ?_
  rintro e w5 ⟨F5, A5, n5, c5, rfl, ho5, hF5, hb5'⟩
  have hb5 := below_then hb4 hb5'
  have ho3 := ho3.below hb5'
  have ho4 := ho4.below hb5'
  go_wp2_with fail
  refine (lawsEqIntS _ 0 _ 0 _ n5 n3 c5 c3 A5 A3 _ _ ho5.sl ho3.sl (Nat.le_refl _) (Nat.le_refl _)).mono ?_
  rintro e w6 ⟨rfl, hb6'⟩
  have hb6 := below_then hb5 hb6'
  have ho3 := ho3.below hb6'
  have ho4 := ho4.below hb6'
  have ho5 := ho5.below hb6'
  go_wp2_with fail
  refine (lawsToNoteS _ 0 w.heap.size n c A l (h.below hb6 (Nat.le_refl _)) hb6.size hn).mono ?_
  rintro e w7 ⟨F7, A7, n7, c7, rfl, ho7, hF7, hb7'⟩
  have hb7 := below_then hb6 hb7'
  have ho3 := ho3.below hb7'
  have ho4 := ho4.below hb7'
  have ho5 := ho5.below hb7'
  go_wp2_with fail
  refine (lawsEqNoteS _ 0 _ 0 _ n4 n7 c4 c7 A4 A7 _ _ ho4.sl ho7.sl (Nat.le_refl _) (Nat.le_refl _)).mono ?_
  rintro e w8 ⟨rfl, hb8'⟩
  have hb8 := below_then hb7 hb8'
  have ho3 := ho3.below hb8'
  have ho4 := ho4.below hb8'
  have ho5 := ho5.below hb8'
  obtain ⟨xs4, hx4, hg4, _⟩ := ho4.row'
  have k4 : n4 ≤ 1048576 := by have := l4.out; have := e1.out; omega
  go_wp2_with fail
  refine (lawsMarkNoteS _ n4 c4 A4 xs4 1 F4 hx4 hg4 (by omega) (by omega) (by omega)).mono ?_
  rintro e w9 ⟨rfl, _, hf9⟩
  have hb9 := below_fr hb8 hf9 (fun k hk => by have := hF4 k hk; have := hb3.size; omega)
  have ho3 := ho3.fr hf9 (fun k hk hk' => by have := hF4 k hk'; have := ho3B k hk; omega)
  have ho5 := ho5.fr hf9 (fun k hk hk' => by have := hF5 k hk; have := ho4B k hk'; omega)
  go_wp2_with fail
  refine (lawsEqIntS _ 0 _ 0 _ n5 n3 c5 c3 A5 A3 _ _ ho5.sl ho3.sl (Nat.le_refl _) (Nat.le_refl _)).mono ?_
  rintro e w10 ⟨rfl, hb10'⟩
  have hb10 := below_then hb9 hb10'
  have ho3 := ho3.below hb10'
  have ho5 := ho5.below hb10'
  obtain ⟨xs5, hx5, hg5, l5⟩ := ho5.row'
  have k5 : n5 ≤ 1048576 := by have := sitesRes_len 1 id l; have := e1.out; omega
  have l5 := Lib.hid l5
  go_wp2_with fail
  refine (lawsMarkIntS _ n5 c5 A5 xs5 1 F5 hx5 hg5 (by omega) (by omega) (by omega)).mono ?_
  rintro e w11 ⟨rfl, hm11, hf11⟩
  have hb11 := below_fr hb10 hf11 (fun k hk => by have := hF5 k hk; have := hb4.size; omega)
  have ho3 := ho3.fr hf11 (fun k hk hk' => by have := hF5 k hk'; have := ho3B k hk; have := hb4'.size; omega)
  go_wp2_with fail
  refine (lawsHeldIntS _ n5 c5 A5 1 hm11 (by omega) (by omega) (by omega)).mono ?_
  rintro e w12 ⟨rfl, rfl⟩
  go_wp2_with fail
  refine (lawsToNoteS _ 0 w.heap.size n c A l (h.below hb11 (Nat.le_refl _)) hb11.size hn).mono ?_
  rintro e w13 ⟨F13, A13, n13, c13, rfl, ho13, hF13, hb13'⟩
  have hb13 := below_then hb11 hb13'
  have l13 := Lib.hid ho13.sl.lenEq
  have ho3 := ho3.below hb13'
  have hm13 := ownsRow_below hm11 hb13'
  go_wp2_with fail
  refine (implPutsOf _ 0 _ n13 c13 A13 l id ho13.sl (Nat.le_refl _) (by have := l13.out; have := e1.out; omega)).mono ?_
  rintro e w14 ⟨F14, A14, n14, c14, rfl, ho14, hF14, hb14'⟩
  have hb14 := below_then hb13 hb14'
  have ho3 := ho3.below hb14'
  have hm14 := ownsRow_below hm13 hb14'
  go_wp2_with fail
  refine (lawsEqIntS _ 0 _ 0 _ n14 n3 c14 c3 A14 A3 _ _ ho14.sl ho3.sl (Nat.le_refl _) (Nat.le_refl _)).mono ?_
  rintro e w15 ⟨rfl, hb15'⟩
  have hb15 := below_then hb14 hb15'
  have hm15 := ownsRow_below hm14 hb15'
  go_wp2_with fail
  refine (lawsHeldIntS _ n5 c5 A5 1 hm15 (by omega) (by omega) (by omega)).mono ?_
  rintro e w16 ⟨rfl, rfl⟩
  go_wp2_with fail
  go_ret
  exact RetB.mk rfl hb15

theorem fnPutsOfA (w : World) (A : Option Addr) (n c : Nat) (l : List Note) (h : Sl noteR w 0 w.heap.size A n c l) (id : Int) (_ : I64 id) :
    Calls Try.prog 6 #[.slice A n c, .int .i64 id] w (RetB true w) := fnPutsOf w n c A l id h
-- TAIL
set_option maxRecDepth 100000 in
theorem putsOf_lifted (os : Os) (started : os.Started) (H : Type) (enc : TypeId × Value → H) :
    ReturnsInHanded {} Try.checked os 6 .any (Rows.fnExactPutsOfSpec.pre6 enc Try.prog Try.f6 Rows.fnExactPutsOfRow.domain false) (Rows.fnExactPutsOfSpec.post enc Try.prog Try.f6 false true false false) := by
  refine returnsInHanded_of_change (C := Try.checked) Try.own started (by kernel_rfl) Try.func6
    (ChangeSpec.witness6 (enc := enc) (C := Try.checked) false ⟨#[], #[.slice none 0 0, .int .i64 0], []⟩ 8 (by kernel_rfl) (by kernel_rfl) (by kernel_rfl) (by kernel_rfl)) ?_
  intro W base args ds gs before hval0 hW hcnd _
  have hval : ∀ (j : Nat) t v, Try.f6.params[j]? = some t → args[j]? = some v → Value.okWide Try.prog W .any base t v := hval0
  have hW' := hW
  obtain ⟨p, q, hA0, hV, rfl, hfz, hnd⟩ := hW
  have hA : DataW.TrodAll enc Try.prog W 0 (fun _ => true) true Try.f6.params.toList args.toList ds p := hA0
  rw [Try.params6] at hA hval
  obtain ⟨v0, v1, d0, d1, p0, p1, rfl, rfl, rfl, h0, h1⟩ := trodAll_two hA
  obtain ⟨A0, len0, cap0, l0, rfl, hl0⟩ := rd_arg_slice rdNotes Try.underlying34 (hval 0 34 v0 rfl rfl) h0
  obtain ⟨n1, rfl, hd1, hp1, wf1⟩ := open_int Try.underlying3 (hval 1 3 v1 rfl rfl) h1
  have i1 : I64 n1 := bounds_i64 wf1
  refine (fnPutsOfA W A0 len0 cap0 l0 hl0 n1 i1).mono fun e W' ⟨he, hb⟩ => ?_
  subst he
  obtain ⟨rfl, rfl⟩ := trodVars_none hV
  refine ⟨_, rfl, law_post (T := 4) hW' rfl Try.laidOut ?_ rfl Try.underlying4 rfl hb⟩
  rw [Try.params6]
  intro t ht
  simp only [List.mem_cons, List.mem_nil_iff, or_false] at ht
  rcases ht with rfl | rfl
  · exact ⟨by kernel_rfl, of_decide_eq_true (by kernel_rfl)⟩
  · exact ⟨by kernel_rfl, of_decide_eq_true (by kernel_rfl)⟩

/-- FnExactPutsOf answers true whatever its arguments. -/
theorem putsOf_holds : Rows.FnExactPutsOfSaid :=
  OpenClaim.holds_of_wide 6 Try.f6 rfl rfl rfl rfl rfl rfl rfl ⟨rfl, rfl, rfl, rfl, rfl⟩ rfl rfl rfl rfl rfl (by kernel_rfl) Try.func6 (by kernel_rfl)
    (of_decide_eq_true (by kernel_rfl)) (by unfold Func.isWrapper; rw [if_neg (of_decide_eq_false (by kernel_rfl))]; exact ⟨rfl, rfl⟩)
    (fun os started H enc _ => putsOf_lifted os started H enc)
#print axioms putsOf_holds
end Go.Proofs.Ytikffchdembbjaa
