/-
  For every input the law TurnKeeps (garmentlaw12) returns true, and its arguments read afterwards as they did: no condition.
-/
import Derived.Test.YtihmifpdnipdmaaLawB
import Derived.Test.YtihmifpdnipdmaaFacts
set_option linter.all false
namespace Go.Proofs.Ytihmifpdnipdmaa.turnKeeps
open Go.ChangeShapes Go.WideShapes Go.ChangeAt Go.RowKit Go.Gm
set_option linter.unusedVariables false

set_option maxRecDepth 100000 in
theorem lifted (os : Os) (started : os.Started) (H : Type) (enc : TypeId × Value → H) :
    ReturnsInHanded {} Try.checked os 10 .any (Rows.turnKeepsSpec.pre6 enc Try.prog Try.f10 Rows.turnKeepsRow.domain false) (Rows.turnKeepsSpec.post enc Try.prog Try.f10 false true false false) := by
  refine law_lift started (by kernel_rfl) Try.func10 (by kernel_rfl) rfl ?_ ?_ (ChangeSpec.witness6 (enc := enc) (C := Try.checked) false ⟨#[], #[.agg #[.bool false, .int .i64 0], .agg #[.int .i64 0, .int .i64 0], .agg #[.int .i64 0, .int .i64 0]], []⟩ 8 (by kernel_rfl) (by kernel_rfl) (by kernel_rfl) (by kernel_rfl)) ?_
  · intro ds h
    match ds, h with
    | [d0, d1, d2], _ => rfl
  · intro t ht
    rw [Try.params10] at ht
    simp only [List.mem_cons, List.not_mem_nil, or_false] at ht
    rcases ht with rfl | rfl | rfl
    · exact ⟨by kernel_rfl, of_decide_eq_true (by kernel_rfl)⟩
    · exact ⟨by kernel_rfl, of_decide_eq_true (by kernel_rfl)⟩
    · exact ⟨by kernel_rfl, of_decide_eq_true (by kernel_rfl)⟩
  · intro W base args ds ps hval hA
    rw [Try.params10] at hA hval
    obtain ⟨v0, vs0, d0, ds0, p0, e0, hargs, rfl, rfl, h0, r0⟩ := trodAll_cons hA
    obtain ⟨v1, vs1, d1, ds1, p1, e1, rfl, rfl, rfl, h1, r1⟩ := trodAll_cons r0
    obtain ⟨v2, vs2, d2, ds2, p2, e2, rfl, rfl, rfl, h2, r2⟩ := trodAll_cons r1
    obtain ⟨rfl, rfl, rfl⟩ := trodAll_nil r2
    obtain rfl : args = #[v0, v1, v2] := by cases args; simp_all
    obtain ⟨f0, q0, b0, m0⟩ := opn_turn (hval 0 23 v0 rfl rfl) h0
    obtain ⟨x1, y1, a1, b1, m1⟩ := opn_spot (hval 1 25 v1 rfl rfl) h1
    obtain ⟨x2, y2, a2, b2, m2⟩ := opn_spot (hval 2 25 v2 rfl rfl) h2
    exact law_calls ok_TurnKeeps (xs := [.agg [.val (.bool f0), .val (.int .i64 q0)], .agg [.val (.int .i64 x1), .val (.int .i64 y1)], .agg [.val (.int .i64 x2), .val (.int .i64 y2)]]) rfl ⟨b0, ⟨a1, b1⟩, a2, b2⟩ ⟨m0, m1, m2, trivial⟩

theorem named_ : Try.prog.funcNamed Rows.turnKeepsRow.func = some 10 := by kernel_rfl
theorem row_ : rowFacts Try.prog Try.f10 Rows.turnKeepsSpec Rows.turnKeepsRow = true := by kernel_rfl
theorem place_ : (Rows.turnKeepsRow.inPlace == Try.prog.inPlace 10) = true := by kernel_rfl
theorem unfollowed_ : (Rows.turnKeepsRow.unfollowed == Try.prog.unfollowed 10) = true := by kernel_rfl
theorem recurses_ : (Rows.turnKeepsRow.recurses == Try.prog.recurses 10) = true := by kernel_rfl
theorem vars_ : (Rows.turnKeepsRow.named == Try.prog.varsNamed 10) = true := by kernel_rfl

theorem over : Rows.turnKeepsRow.holds Try.pinned (OpenSpec.ofChange Rows.turnKeepsSpec) :=
  OpenClaim.holds_of_wide 10 Try.f10 rfl rfl rfl rfl rfl rfl rfl ⟨rfl, rfl, rfl, rfl, rfl⟩ rfl rfl rfl rfl rfl named_ Try.func10 (facts_of row_ place_ unfollowed_ recurses_ vars_)
    (of_decide_eq_true (by kernel_rfl)) (by unfold Func.isWrapper; first | (rw [if_pos (by decide +kernel)]; kernel_rfl) | (rw [if_neg (by decide +kernel)]; exact ⟨rfl, rfl⟩))
    (fun os started H enc _ => lifted os started H enc)

/-- The given statement. -/
theorem proved : Rows.TurnKeepsSaid := over
#print axioms proved
end Go.Proofs.Ytihmifpdnipdmaa.turnKeeps
