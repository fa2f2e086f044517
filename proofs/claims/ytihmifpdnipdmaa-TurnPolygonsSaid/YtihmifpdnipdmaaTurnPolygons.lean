/-
  For every input the law TurnPolygons (garmentlaw12) returns true, and its arguments read afterwards as they did: no condition.
-/
import Derived.Test.YtihmifpdnipdmaaLawPg
import Derived.Test.YtihmifpdnipdmaaFacts
set_option linter.all false
namespace Go.Proofs.Ytihmifpdnipdmaa.turnPolygons
open Go.ChangeShapes Go.WideShapes Go.ChangeAt Go.RowKit Go.Gm
set_option linter.unusedVariables false

set_option maxRecDepth 100000 in
theorem lifted (os : Os) (started : os.Started) (H : Type) (enc : TypeId × Value → H) :
    ReturnsInHanded {} Try.checked os 12 .any (Rows.turnPolygonsSpec.pre6 enc Try.prog Try.f12 Rows.turnPolygonsRow.domain false) (Rows.turnPolygonsSpec.post enc Try.prog Try.f12 false true false false) := by
  refine law_lift started (by kernel_rfl) Try.func12 (by kernel_rfl) rfl ?_ ?_ (ChangeSpec.witness6 (enc := enc) (C := Try.checked) false ⟨#[], #[.agg #[.bool false, .int .i64 0], .slice none 0 0], []⟩ 8 (by kernel_rfl) (by kernel_rfl) (by kernel_rfl) (by kernel_rfl)) ?_
  · intro ds h
    match ds, h with
    | [d0, d1], _ => rfl
  · intro t ht
    rw [Try.params12] at ht
    simp only [List.mem_cons, List.not_mem_nil, or_false] at ht
    rcases ht with rfl | rfl
    · exact ⟨by kernel_rfl, of_decide_eq_true (by kernel_rfl)⟩
    · exact ⟨by kernel_rfl, of_decide_eq_true (by kernel_rfl)⟩
  · intro W base args ds ps hval hA
    rw [Try.params12] at hA hval
    obtain ⟨v0, vs0, d0, ds0, p0, e0, hargs, rfl, rfl, h0, r0⟩ := trodAll_cons hA
    obtain ⟨v1, vs1, d1, ds1, p1, e1, rfl, rfl, rfl, h1, r1⟩ := trodAll_cons r0
    obtain ⟨rfl, rfl, rfl⟩ := trodAll_nil r1
    obtain rfl : args = #[v0, v1] := by cases args; simp_all
    obtain ⟨f0, q0, b0, m0⟩ := opn_turn (hval 0 23 v0 rfl rfl) h0
    obtain ⟨l1, b1, m1⟩ := opn_spots (hval 1 43 v1 rfl rfl) h1
    exact law_calls ok_TurnPolygons (xs := [.agg [.val (.bool f0), .val (.int .i64 q0)], .one (.sl 2 l1)]) rfl ⟨isSp_of b1, inZ_of b1⟩ ⟨m0, m1, trivial⟩

theorem named_ : Try.prog.funcNamed Rows.turnPolygonsRow.func = some 12 := by kernel_rfl
theorem row_ : rowFacts Try.prog Try.f12 Rows.turnPolygonsSpec Rows.turnPolygonsRow = true := by kernel_rfl
theorem place_ : (Rows.turnPolygonsRow.inPlace == Try.prog.inPlace 12) = true := by kernel_rfl
theorem unfollowed_ : (Rows.turnPolygonsRow.unfollowed == Try.prog.unfollowed 12) = true := by kernel_rfl
theorem recurses_ : (Rows.turnPolygonsRow.recurses == Try.prog.recurses 12) = true := by kernel_rfl
theorem vars_ : (Rows.turnPolygonsRow.named == Try.prog.varsNamed 12) = true := by kernel_rfl

theorem over : Rows.turnPolygonsRow.holds Try.pinned (OpenSpec.ofChange Rows.turnPolygonsSpec) :=
  OpenClaim.holds_of_wide 12 Try.f12 rfl rfl rfl rfl rfl rfl rfl ⟨rfl, rfl, rfl, rfl, rfl⟩ rfl rfl rfl rfl rfl named_ Try.func12 (facts_of row_ place_ unfollowed_ recurses_ vars_)
    (of_decide_eq_true (by kernel_rfl)) (by unfold Func.isWrapper; first | (rw [if_pos (by decide +kernel)]; kernel_rfl) | (rw [if_neg (by decide +kernel)]; exact ⟨rfl, rfl⟩))
    (fun os started H enc _ => lifted os started H enc)

/-- The given statement. -/
theorem proved : Rows.TurnPolygonsSaid := over
#print axioms proved
end Go.Proofs.Ytihmifpdnipdmaa.turnPolygons
