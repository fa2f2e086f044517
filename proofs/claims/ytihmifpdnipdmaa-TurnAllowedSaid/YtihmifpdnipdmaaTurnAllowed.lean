/-
  For every input the law TurnAllowed (garmentlaw12) returns true, and its arguments read afterwards as they did: no condition.
-/
import Derived.Test.YtihmifpdnipdmaaLawB
import Derived.Test.YtihmifpdnipdmaaFacts
set_option linter.all false
namespace Go.Proofs.Ytihmifpdnipdmaa.turnAllowed
open Go.ChangeShapes Go.WideShapes Go.ChangeAt Go.RowKit Go.Gm
set_option linter.unusedVariables false

set_option maxRecDepth 100000 in
theorem lifted (os : Os) (started : os.Started) (H : Type) (enc : TypeId × Value → H) :
    ReturnsInHanded {} Try.checked os 13 .any (Rows.turnAllowedSpec.pre6 enc Try.prog Try.f13 Rows.turnAllowedRow.domain false) (Rows.turnAllowedSpec.post enc Try.prog Try.f13 false true false false) := by
  refine law_lift started (by kernel_rfl) Try.func13 (by kernel_rfl) rfl ?_ ?_ (ChangeSpec.witness6 (enc := enc) (C := Try.checked) false ⟨#[], #[.int .i64 0, .bool false, .agg #[.bool false, .int .i64 0], .agg #[.bool false, .int .i64 0]], []⟩ 8 (by kernel_rfl) (by kernel_rfl) (by kernel_rfl) (by kernel_rfl)) ?_
  · intro ds h
    match ds, h with
    | [d0, d1, d2, d3], _ => rfl
  · intro t ht
    rw [Try.params13] at ht
    simp only [List.mem_cons, List.not_mem_nil, or_false] at ht
    rcases ht with rfl | rfl | rfl | rfl
    · exact ⟨by kernel_rfl, of_decide_eq_true (by kernel_rfl)⟩
    · exact ⟨by kernel_rfl, of_decide_eq_true (by kernel_rfl)⟩
    · exact ⟨by kernel_rfl, of_decide_eq_true (by kernel_rfl)⟩
    · exact ⟨by kernel_rfl, of_decide_eq_true (by kernel_rfl)⟩
  · intro W base args ds ps hval hA
    rw [Try.params13] at hA hval
    obtain ⟨v0, vs0, d0, ds0, p0, e0, hargs, rfl, rfl, h0, r0⟩ := trodAll_cons hA
    obtain ⟨v1, vs1, d1, ds1, p1, e1, rfl, rfl, rfl, h1, r1⟩ := trodAll_cons r0
    obtain ⟨v2, vs2, d2, ds2, p2, e2, rfl, rfl, rfl, h2, r2⟩ := trodAll_cons r1
    obtain ⟨v3, vs3, d3, ds3, p3, e3, rfl, rfl, rfl, h3, r3⟩ := trodAll_cons r2
    obtain ⟨rfl, rfl, rfl⟩ := trodAll_nil r3
    obtain rfl : args = #[v0, v1, v2, v3] := by cases args; simp_all
    obtain ⟨n0, b0, m0⟩ := opn_int (hval 0 3 v0 rfl rfl) h0
    obtain ⟨n1, m1⟩ := opn_bool (hval 1 4 v1 rfl rfl) h1
    obtain ⟨f2, q2, b2, m2⟩ := opn_turn (hval 2 23 v2 rfl rfl) h2
    obtain ⟨f3, q3, b3, m3⟩ := opn_turn (hval 3 23 v3 rfl rfl) h3
    exact law_calls ok_TurnAllowed (xs := [.one (.val (.int .i64 n0)), .one (.val (.bool n1)), .agg [.val (.bool f2), .val (.int .i64 q2)], .agg [.val (.bool f3), .val (.int .i64 q3)]]) rfl ⟨b0, b2, b3⟩ ⟨m0, m1, m2, m3, trivial⟩

theorem named_ : Try.prog.funcNamed Rows.turnAllowedRow.func = some 13 := by kernel_rfl
theorem row_ : rowFacts Try.prog Try.f13 Rows.turnAllowedSpec Rows.turnAllowedRow = true := by kernel_rfl
theorem place_ : (Rows.turnAllowedRow.inPlace == Try.prog.inPlace 13) = true := by kernel_rfl
theorem unfollowed_ : (Rows.turnAllowedRow.unfollowed == Try.prog.unfollowed 13) = true := by kernel_rfl
theorem recurses_ : (Rows.turnAllowedRow.recurses == Try.prog.recurses 13) = true := by kernel_rfl
theorem vars_ : (Rows.turnAllowedRow.named == Try.prog.varsNamed 13) = true := by kernel_rfl

theorem over : Rows.turnAllowedRow.holds Try.pinned (OpenSpec.ofChange Rows.turnAllowedSpec) :=
  OpenClaim.holds_of_wide 13 Try.f13 rfl rfl rfl rfl rfl rfl rfl ⟨rfl, rfl, rfl, rfl, rfl⟩ rfl rfl rfl rfl rfl named_ Try.func13 (facts_of row_ place_ unfollowed_ recurses_ vars_)
    (of_decide_eq_true (by kernel_rfl)) (by unfold Func.isWrapper; first | (rw [if_pos (by decide +kernel)]; kernel_rfl) | (rw [if_neg (by decide +kernel)]; exact ⟨rfl, rfl⟩))
    (fun os started H enc _ => lifted os started H enc)

/-- The given statement. -/
theorem proved : Rows.TurnAllowedSaid := over
#print axioms proved
end Go.Proofs.Ytihmifpdnipdmaa.turnAllowed
