/-
  For every input the law TurnGroup (garmentlaw12) returns true, and its arguments read afterwards as they did: no condition.
-/
import Derived.Test.YtihmifpdnipdmaaLawA
import Derived.Test.YtihmifpdnipdmaaFacts
set_option linter.all false
namespace Go.Proofs.Ytihmifpdnipdmaa.turnGroup
open Go.ChangeShapes Go.WideShapes Go.ChangeAt Go.RowKit Go.Gm
set_option linter.unusedVariables false

set_option maxRecDepth 100000 in
theorem lifted (os : Os) (started : os.Started) (H : Type) (enc : TypeId × Value → H) :
    ReturnsInHanded {} Try.checked os 7 .any (Rows.turnGroupSpec.pre6 enc Try.prog Try.f7 Rows.turnGroupRow.domain false) (Rows.turnGroupSpec.post enc Try.prog Try.f7 false true false false) := by
  refine law_lift started (by kernel_rfl) Try.func7 (by kernel_rfl) rfl ?_ ?_ (ChangeSpec.witness6 (enc := enc) (C := Try.checked) false ⟨#[], #[.agg #[.bool false, .int .i64 0], .agg #[.bool false, .int .i64 0], .agg #[.bool false, .int .i64 0], .agg #[.int .i64 0, .int .i64 0]], []⟩ 8 (by kernel_rfl) (by kernel_rfl) (by kernel_rfl) (by kernel_rfl)) ?_
  · intro ds h
    match ds, h with
    | [d0, d1, d2, d3], _ => rfl
  · intro t ht
    rw [Try.params7] at ht
    simp only [List.mem_cons, List.not_mem_nil, or_false] at ht
    rcases ht with rfl | rfl | rfl | rfl
    · exact ⟨by kernel_rfl, of_decide_eq_true (by kernel_rfl)⟩
    · exact ⟨by kernel_rfl, of_decide_eq_true (by kernel_rfl)⟩
    · exact ⟨by kernel_rfl, of_decide_eq_true (by kernel_rfl)⟩
    · exact ⟨by kernel_rfl, of_decide_eq_true (by kernel_rfl)⟩
  · intro W base args ds ps hval hA
    rw [Try.params7] at hA hval
    obtain ⟨v0, vs0, d0, ds0, p0, e0, hargs, rfl, rfl, h0, r0⟩ := trodAll_cons hA
    obtain ⟨v1, vs1, d1, ds1, p1, e1, rfl, rfl, rfl, h1, r1⟩ := trodAll_cons r0
    obtain ⟨v2, vs2, d2, ds2, p2, e2, rfl, rfl, rfl, h2, r2⟩ := trodAll_cons r1
    obtain ⟨v3, vs3, d3, ds3, p3, e3, rfl, rfl, rfl, h3, r3⟩ := trodAll_cons r2
    obtain ⟨rfl, rfl, rfl⟩ := trodAll_nil r3
    obtain rfl : args = #[v0, v1, v2, v3] := by cases args; simp_all
    obtain ⟨f0, q0, b0, m0⟩ := opn_turn (hval 0 23 v0 rfl rfl) h0
    obtain ⟨f1, q1, b1, m1⟩ := opn_turn (hval 1 23 v1 rfl rfl) h1
    obtain ⟨f2, q2, b2, m2⟩ := opn_turn (hval 2 23 v2 rfl rfl) h2
    obtain ⟨x3, y3, a3, b3, m3⟩ := opn_spot (hval 3 25 v3 rfl rfl) h3
    exact law_calls ok_TurnGroup (xs := [.agg [.val (.bool f0), .val (.int .i64 q0)], .agg [.val (.bool f1), .val (.int .i64 q1)], .agg [.val (.bool f2), .val (.int .i64 q2)], .agg [.val (.int .i64 x3), .val (.int .i64 y3)]]) rfl ⟨⟨b0, b1⟩, b2, a3, b3⟩ ⟨m0, m1, m2, m3, trivial⟩

theorem named_ : Try.prog.funcNamed Rows.turnGroupRow.func = some 7 := by kernel_rfl
theorem row_ : rowFacts Try.prog Try.f7 Rows.turnGroupSpec Rows.turnGroupRow = true := by kernel_rfl
theorem place_ : (Rows.turnGroupRow.inPlace == Try.prog.inPlace 7) = true := by kernel_rfl
theorem unfollowed_ : (Rows.turnGroupRow.unfollowed == Try.prog.unfollowed 7) = true := by kernel_rfl
theorem recurses_ : (Rows.turnGroupRow.recurses == Try.prog.recurses 7) = true := by kernel_rfl
theorem vars_ : (Rows.turnGroupRow.named == Try.prog.varsNamed 7) = true := by kernel_rfl

theorem over : Rows.turnGroupRow.holds Try.pinned (OpenSpec.ofChange Rows.turnGroupSpec) :=
  OpenClaim.holds_of_wide 7 Try.f7 rfl rfl rfl rfl rfl rfl rfl ⟨rfl, rfl, rfl, rfl, rfl⟩ rfl rfl rfl rfl rfl named_ Try.func7 (facts_of row_ place_ unfollowed_ recurses_ vars_)
    (of_decide_eq_true (by kernel_rfl)) (by unfold Func.isWrapper; first | (rw [if_pos (by decide +kernel)]; kernel_rfl) | (rw [if_neg (by decide +kernel)]; exact ⟨rfl, rfl⟩))
    (fun os started H enc _ => lifted os started H enc)

/-- The given statement. -/
theorem proved : Rows.TurnGroupSaid := over
#print axioms proved
end Go.Proofs.Ytihmifpdnipdmaa.turnGroup
