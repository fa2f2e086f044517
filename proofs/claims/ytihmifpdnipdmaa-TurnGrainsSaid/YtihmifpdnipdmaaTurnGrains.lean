/-
  For every input the law TurnGrains (garmentlaw12) returns true, and its arguments read afterwards as they did: no condition.
-/
import Derived.Test.YtihmifpdnipdmaaLawB
import Derived.Test.YtihmifpdnipdmaaFacts
set_option linter.all false
namespace Go.Proofs.Ytihmifpdnipdmaa.turnGrains
open Go.ChangeShapes Go.WideShapes Go.ChangeAt Go.RowKit Go.Gm
set_option linter.unusedVariables false

set_option maxRecDepth 100000 in
theorem lifted (os : Os) (started : os.Started) (H : Type) (enc : TypeId × Value → H) :
    ReturnsInHanded {} Try.checked os 6 .any (Rows.turnGrainsSpec.pre6 enc Try.prog Try.f6 Rows.turnGrainsRow.domain false) (Rows.turnGrainsSpec.post enc Try.prog Try.f6 false true false false) := by
  refine law_lift started (by kernel_rfl) Try.func6 (by kernel_rfl) rfl ?_ ?_ (ChangeSpec.witness6 (enc := enc) (C := Try.checked) false ⟨#[], #[.int .i64 0, .bool false, .agg #[.bool false, .int .i64 0]], []⟩ 8 (by kernel_rfl) (by kernel_rfl) (by kernel_rfl) (by kernel_rfl)) ?_
  · intro ds h
    match ds, h with
    | [d0, d1, d2], _ => rfl
  · intro t ht
    rw [Try.params6] at ht
    simp only [List.mem_cons, List.not_mem_nil, or_false] at ht
    rcases ht with rfl | rfl | rfl
    · exact ⟨by kernel_rfl, of_decide_eq_true (by kernel_rfl)⟩
    · exact ⟨by kernel_rfl, of_decide_eq_true (by kernel_rfl)⟩
    · exact ⟨by kernel_rfl, of_decide_eq_true (by kernel_rfl)⟩
  · intro W base args ds ps hval hA
    rw [Try.params6] at hA hval
    obtain ⟨v0, vs0, d0, ds0, p0, e0, hargs, rfl, rfl, h0, r0⟩ := trodAll_cons hA
    obtain ⟨v1, vs1, d1, ds1, p1, e1, rfl, rfl, rfl, h1, r1⟩ := trodAll_cons r0
    obtain ⟨v2, vs2, d2, ds2, p2, e2, rfl, rfl, rfl, h2, r2⟩ := trodAll_cons r1
    obtain ⟨rfl, rfl, rfl⟩ := trodAll_nil r2
    obtain rfl : args = #[v0, v1, v2] := by cases args; simp_all
    obtain ⟨n0, b0, m0⟩ := opn_int (hval 0 3 v0 rfl rfl) h0
    obtain ⟨n1, m1⟩ := opn_bool (hval 1 4 v1 rfl rfl) h1
    obtain ⟨f2, q2, b2, m2⟩ := opn_turn (hval 2 23 v2 rfl rfl) h2
    exact law_calls ok_TurnGrains (xs := [.one (.val (.int .i64 n0)), .one (.val (.bool n1)), .agg [.val (.bool f2), .val (.int .i64 q2)]]) rfl ⟨b0, b2⟩ ⟨m0, m1, m2, trivial⟩

theorem named_ : Try.prog.funcNamed Rows.turnGrainsRow.func = some 6 := by kernel_rfl
theorem row_ : rowFacts Try.prog Try.f6 Rows.turnGrainsSpec Rows.turnGrainsRow = true := by kernel_rfl
theorem place_ : (Rows.turnGrainsRow.inPlace == Try.prog.inPlace 6) = true := by kernel_rfl
theorem unfollowed_ : (Rows.turnGrainsRow.unfollowed == Try.prog.unfollowed 6) = true := by kernel_rfl
theorem recurses_ : (Rows.turnGrainsRow.recurses == Try.prog.recurses 6) = true := by kernel_rfl
theorem vars_ : (Rows.turnGrainsRow.named == Try.prog.varsNamed 6) = true := by kernel_rfl

theorem over : Rows.turnGrainsRow.holds Try.pinned (OpenSpec.ofChange Rows.turnGrainsSpec) :=
  OpenClaim.holds_of_wide 6 Try.f6 rfl rfl rfl rfl rfl rfl rfl ⟨rfl, rfl, rfl, rfl, rfl⟩ rfl rfl rfl rfl rfl named_ Try.func6 (facts_of row_ place_ unfollowed_ recurses_ vars_)
    (of_decide_eq_true (by kernel_rfl)) (by unfold Func.isWrapper; first | (rw [if_pos (by decide +kernel)]; kernel_rfl) | (rw [if_neg (by decide +kernel)]; exact ⟨rfl, rfl⟩))
    (fun os started H enc _ => lifted os started H enc)

/-- The given statement. -/
theorem proved : Rows.TurnGrainsSaid := over
#print axioms proved
end Go.Proofs.Ytihmifpdnipdmaa.turnGrains
