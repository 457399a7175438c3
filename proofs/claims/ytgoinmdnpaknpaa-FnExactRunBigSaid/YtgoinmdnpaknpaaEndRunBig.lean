/- For every program, every list of inputs, every number of calls and every fuel the program's RunBig returns what the reference's returns: FnExactRunBig returns true, and its arguments read as they did. No condition beyond the row's own. -/
import Derived.Test.YtgoinmdnpaknpaaLawRunBig
set_option linter.unusedVariables false
set_option linter.unusedSimpArgs false
set_option maxRecDepth 100000
namespace Go.Proofs.Ytgoinmdnpaknpaa
open Go.ChangeShapes Go.WideShapes Go.ChangeAt Go.RowKit
open Go.ChangeMaps (open_string)

set_option maxRecDepth 100000 in
theorem runBig_lifted (os : Os) (started : os.Started) (H : Type) (enc : TypeId × Value → H) :
    ReturnsInHanded {} Try.checked os 5 .any (Rows.fnExactRunBigSpec.pre6 enc Try.prog Try.f5 Rows.fnExactRunBigRow.domain false) (Rows.fnExactRunBigSpec.post enc Try.prog Try.f5 false true false false) := by
  refine returnsInHanded_of_change (C := Try.checked) Try.own started (by kernel_rfl) Try.func5
    (ChangeSpec.witness6 (enc := enc) (C := Try.checked) false ⟨#[], #[.agg #[.slice none 0 0], .slice none 0 0, .int .i64 0, .int .i64 0], []⟩ 8 (by kernel_rfl) (by kernel_rfl) (by kernel_rfl) (by kernel_rfl)) ?_
  intro W base args ds gs before hval0 hW hcnd _
  have hval : ∀ (j : Nat) t v, Try.f5.params[j]? = some t → args[j]? = some v → Value.okWide Try.prog W .any base t v := hval0
  have hW' := hW
  obtain ⟨p, q, hA0, hV, rfl, hfz, hnd⟩ := hW
  have hA : DataW.TrodAll enc Try.prog W 0 (fun _ => true) true Try.f5.params.toList args.toList ds p := hA0
  rw [Try.params5] at hA hval
  obtain ⟨v0, v1, v2, v3, d0, d1, d2, d3, p0, p1, p2, p3, rfl, rfl, rfl, h0, h1, h2, h3⟩ := trodAll_four hA
  obtain ⟨cs0, a0, rfl, hl0⟩ := rd_arg_agg rdProg Try.underlying36 (hval 0 36 v0 rfl rfl) h0
  obtain ⟨A1, len1, cap1, l1, rfl, hl1⟩ := rd_arg_slice rdInts Try.underlying37 (hval 1 37 v1 rfl rfl) h1
  obtain ⟨n2, rfl, hd2, hp2, wf2⟩ := open_int Try.underlying3 (hval 2 3 v2 rfl rfl) h2
  have i2 : I64 n2 := bounds_i64 wf2
  obtain ⟨n3, rfl, hd3, hp3, wf3⟩ := open_int Try.underlying3 (hval 3 3 v3 rfl rfl) h3
  have i3 : I64 n3 := bounds_i64 wf3
  refine (fnRunBigA W cs0 a0 hl0 A1 len1 cap1 l1 hl1 n2 i2 n3 i3).mono fun e W' ⟨he, hb⟩ => ?_
  subst he
  obtain ⟨rfl, rfl⟩ := trodVars_none hV
  refine ⟨_, rfl, law_post (T := 4) hW' rfl Try.laidOut ?_ rfl Try.underlying4 rfl hb⟩
  rw [Try.params5]
  intro t ht
  simp only [List.mem_cons, List.mem_nil_iff, or_false] at ht
  rcases ht with rfl | rfl | rfl | rfl
  · exact ⟨by kernel_rfl, of_decide_eq_true (by kernel_rfl)⟩
  · exact ⟨by kernel_rfl, of_decide_eq_true (by kernel_rfl)⟩
  · exact ⟨by kernel_rfl, of_decide_eq_true (by kernel_rfl)⟩
  · exact ⟨by kernel_rfl, of_decide_eq_true (by kernel_rfl)⟩

set_option maxHeartbeats 8000000 in
theorem runBig_closed : joinedFacts Try.checked.prog 5 Try.f5 Rows.fnExactRunBigSpec Rows.fnExactRunBigRow = true := by
  unfold joinedFacts
  repeat' (with_reducible refine Bool.and_eq_true_iff.mpr ⟨?_, ?_⟩)
  all_goals (as_aux_lemma => kernel_rfl)
/-- FnExactRunBig answers true whatever its arguments. -/
theorem runBig_holds : Rows.FnExactRunBigSaid :=
  OpenClaim.holds_of_wide 5 Try.f5 rfl rfl rfl rfl rfl rfl rfl ⟨rfl, rfl, rfl, rfl, rfl⟩ rfl rfl rfl rfl rfl (by as_aux_lemma => kernel_rfl) Try.func5 runBig_closed
    (of_decide_eq_true (by as_aux_lemma => kernel_rfl)) (by unfold Func.isWrapper; rw [if_neg (of_decide_eq_false (by as_aux_lemma => kernel_rfl))]; exact ⟨rfl, rfl⟩)
    (fun os started H enc _ => runBig_lifted os started H enc)
#print axioms runBig_holds
end Go.Proofs.Ytgoinmdnpaknpaa
