/-
  For every input the law CurveMoves (garmentlaw09) returns true, and its arguments read afterwards as they did: no condition.
-/
import Derived.Test.YtihmifpdnipdmaaLawS
import Derived.Test.YtihmifpdnipdmaaFacts
import Derived.Test.YtihmifpdnipdmaaBridgeB
set_option linter.all false
namespace Go.Proofs.Ytihmifpdnipdmaa.curveMoves
open Go.ChangeShapes Go.WideShapes Go.ChangeAt Go.RowKit Go.Gm
set_option linter.unusedVariables false

set_option maxRecDepth 100000 in
theorem lifted (os : Os) (started : os.Started) (H : Type) (enc : TypeId × Value → H) :
    ReturnsInHanded {} Try.checked os 26 .any (Rows.curveMovesSpec.pre6 enc Try.prog Try.f26 Rows.curveMovesRow.domain false) (Rows.curveMovesSpec.post enc Try.prog Try.f26 false true false false) := by
  refine law_lift started (by kernel_rfl) Try.func26 (by kernel_rfl) rfl ?_ ?_ (ChangeSpec.witness6 (enc := enc) (C := Try.checked) false ⟨#[], #[.slice none 0 0, .agg #[.bool false, .slice none 0 0, .slice none 0 0, .bool false, .slice none 0 0, .slice none 0 0], .agg #[.bool false, .slice none 0 0, .slice none 0 0]], []⟩ 8 (by kernel_rfl) (by kernel_rfl) (by kernel_rfl) (by kernel_rfl)) ?_
  · intro ds h
    match ds, h with
    | [d0, d1, d2], _ => rfl
  · intro t ht
    rw [Try.params26] at ht
    simp only [List.mem_cons, List.not_mem_nil, or_false] at ht
    rcases ht with rfl | rfl | rfl
    · exact ⟨by kernel_rfl, of_decide_eq_true (by kernel_rfl)⟩
    · exact ⟨by kernel_rfl, of_decide_eq_true (by kernel_rfl)⟩
    · exact ⟨by kernel_rfl, of_decide_eq_true (by kernel_rfl)⟩
  · intro W base args ds ps hval hA
    rw [Try.params26] at hA hval
    obtain ⟨v0, vs0, d0, ds0, p0, e0, hargs, rfl, rfl, h0, r0⟩ := trodAll_cons hA
    obtain ⟨v1, vs1, d1, ds1, p1, e1, rfl, rfl, rfl, h1, r1⟩ := trodAll_cons r0
    obtain ⟨v2, vs2, d2, ds2, p2, e2, rfl, rfl, rfl, h2, r2⟩ := trodAll_cons r1
    obtain ⟨rfl, rfl, rfl⟩ := trodAll_nil r2
    obtain rfl : args = #[v0, v1, v2] := by cases args; simp_all
    obtain ⟨l0, b0, m0⟩ := opn_pts (hval 0 52 v0 rfl rfl) h0
    obtain ⟨s1, l1, t1, z1, k1, u1, m1⟩ := opn_pt (hval 1 38 v1 rfl rfl) h1
    obtain ⟨s2, l2, t2, m2⟩ := opn_ratio (hval 2 36 v2 rfl rfl) h2
    exact law_calls ok_CurveMoves (xs := [.one (.sl 6 l0), .agg [.val (.bool s1), .nat l1, .nat t1, .val (.bool z1), .nat k1, .nat u1], .agg [.val (.bool s2), .nat l2, .nat t2]]) rfl (isP_of b0) ⟨m0, m1, m2, trivial⟩

theorem named_ : Try.prog.funcNamed Rows.curveMovesRow.func = some 26 := by kernel_rfl
theorem row_ : rowFacts Try.prog Try.f26 Rows.curveMovesSpec Rows.curveMovesRow = true := by kernel_rfl
theorem place_ : (Rows.curveMovesRow.inPlace == Try.prog.inPlace 26) = true := by kernel_rfl
theorem unfollowed_ : (Rows.curveMovesRow.unfollowed == Try.prog.unfollowed 26) = true := by kernel_rfl
theorem recurses_ : (Rows.curveMovesRow.recurses == Try.prog.recurses 26) = true := by kernel_rfl
theorem vars_ : (Rows.curveMovesRow.named == Try.prog.varsNamed 26) = true := by kernel_rfl

theorem over : Rows.curveMovesRow.holds Try.pinned (OpenSpec.ofChange Rows.curveMovesSpec) :=
  OpenClaim.holds_of_wide 26 Try.f26 rfl rfl rfl rfl rfl rfl rfl ⟨rfl, rfl, rfl, rfl, rfl⟩ rfl rfl rfl rfl rfl named_ Try.func26 (facts_of row_ place_ unfollowed_ recurses_ vars_)
    (of_decide_eq_true (by kernel_rfl)) (by unfold Func.isWrapper; first | (rw [if_pos (by decide +kernel)]; kernel_rfl) | (rw [if_neg (by decide +kernel)]; exact ⟨rfl, rfl⟩))
    (fun os started H enc _ => lifted os started H enc)

/-- The given statement. -/
theorem proved : Rows.CurveMovesSaid := over
#print axioms proved
end Go.Proofs.Ytihmifpdnipdmaa.curveMoves
