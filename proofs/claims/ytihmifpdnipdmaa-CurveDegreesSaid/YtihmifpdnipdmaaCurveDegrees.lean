/-
  For every input the law CurveDegrees (garmentlaw09) returns true, and its arguments read afterwards as they did: no condition.
-/
import Derived.Test.YtihmifpdnipdmaaLawDg
import Derived.Test.YtihmifpdnipdmaaFacts
import Derived.Test.YtihmifpdnipdmaaBridgeB
set_option linter.all false
namespace Go.Proofs.Ytihmifpdnipdmaa.curveDegrees
open Go.ChangeShapes Go.WideShapes Go.ChangeAt Go.RowKit Go.Gm
set_option linter.unusedVariables false

set_option maxRecDepth 100000 in
theorem lifted (os : Os) (started : os.Started) (H : Type) (enc : TypeId × Value → H) :
    ReturnsInHanded {} Try.checked os 27 .any (Rows.curveDegreesSpec.pre6 enc Try.prog Try.f27 Rows.curveDegreesRow.domain false) (Rows.curveDegreesSpec.post enc Try.prog Try.f27 false true false false) := by
  refine law_lift started (by kernel_rfl) Try.func27 (by kernel_rfl) rfl ?_ ?_ (ChangeSpec.witness6 (enc := enc) (C := Try.checked) false ⟨#[], #[.slice none 0 0, .agg #[.bool false, .slice none 0 0, .slice none 0 0]], []⟩ 8 (by kernel_rfl) (by kernel_rfl) (by kernel_rfl) (by kernel_rfl)) ?_
  · intro ds h
    match ds, h with
    | [d0, d1], _ => rfl
  · intro t ht
    rw [Try.params27] at ht
    simp only [List.mem_cons, List.not_mem_nil, or_false] at ht
    rcases ht with rfl | rfl
    · exact ⟨by kernel_rfl, of_decide_eq_true (by kernel_rfl)⟩
    · exact ⟨by kernel_rfl, of_decide_eq_true (by kernel_rfl)⟩
  · intro W base args ds ps hval hA
    rw [Try.params27] at hA hval
    obtain ⟨v0, vs0, d0, ds0, p0, e0, hargs, rfl, rfl, h0, r0⟩ := trodAll_cons hA
    obtain ⟨v1, vs1, d1, ds1, p1, e1, rfl, rfl, rfl, h1, r1⟩ := trodAll_cons r0
    obtain ⟨rfl, rfl, rfl⟩ := trodAll_nil r1
    obtain rfl : args = #[v0, v1] := by cases args; simp_all
    obtain ⟨l0, b0, m0⟩ := opn_pts (hval 0 52 v0 rfl rfl) h0
    obtain ⟨s1, l1, t1, m1⟩ := opn_ratio (hval 1 36 v1 rfl rfl) h1
    exact law_calls ok_CurveDegrees (xs := [.one (.sl 6 l0), .agg [.val (.bool s1), .nat l1, .nat t1]]) rfl (isP_of b0) ⟨m0, m1, trivial⟩

theorem named_ : Try.prog.funcNamed Rows.curveDegreesRow.func = some 27 := by kernel_rfl
theorem row_ : rowFacts Try.prog Try.f27 Rows.curveDegreesSpec Rows.curveDegreesRow = true := by kernel_rfl
theorem place_ : (Rows.curveDegreesRow.inPlace == Try.prog.inPlace 27) = true := by kernel_rfl
theorem unfollowed_ : (Rows.curveDegreesRow.unfollowed == Try.prog.unfollowed 27) = true := by kernel_rfl
theorem recurses_ : (Rows.curveDegreesRow.recurses == Try.prog.recurses 27) = true := by kernel_rfl
theorem vars_ : (Rows.curveDegreesRow.named == Try.prog.varsNamed 27) = true := by kernel_rfl

theorem over : Rows.curveDegreesRow.holds Try.pinned (OpenSpec.ofChange Rows.curveDegreesSpec) :=
  OpenClaim.holds_of_wide 27 Try.f27 rfl rfl rfl rfl rfl rfl rfl ⟨rfl, rfl, rfl, rfl, rfl⟩ rfl rfl rfl rfl rfl named_ Try.func27 (facts_of row_ place_ unfollowed_ recurses_ vars_)
    (of_decide_eq_true (by kernel_rfl)) (by unfold Func.isWrapper; first | (rw [if_pos (by decide +kernel)]; kernel_rfl) | (rw [if_neg (by decide +kernel)]; exact ⟨rfl, rfl⟩))
    (fun os started H enc _ => lifted os started H enc)

/-- The given statement. -/
theorem proved : Rows.CurveDegreesSaid := over
#print axioms proved
end Go.Proofs.Ytihmifpdnipdmaa.curveDegrees
