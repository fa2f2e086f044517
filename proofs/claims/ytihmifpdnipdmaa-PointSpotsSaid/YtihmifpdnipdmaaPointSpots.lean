/-
  For every input the law PointSpots (garmentlaw08) returns true, and its arguments read afterwards as they did: no condition.
-/
import Derived.Test.YtihmifpdnipdmaaLawQd
import Derived.Test.YtihmifpdnipdmaaFacts
set_option linter.all false
namespace Go.Proofs.Ytihmifpdnipdmaa.pointSpots
open Go.ChangeShapes Go.WideShapes Go.ChangeAt Go.RowKit Go.Gm
set_option linter.unusedVariables false

set_option maxRecDepth 100000 in
theorem lifted (os : Os) (started : os.Started) (H : Type) (enc : TypeId × Value → H) :
    ReturnsInHanded {} Try.checked os 15 .any (Rows.pointSpotsSpec.pre6 enc Try.prog Try.f15 Rows.pointSpotsRow.domain false) (Rows.pointSpotsSpec.post enc Try.prog Try.f15 false true false false) := by
  refine law_lift started (by kernel_rfl) Try.func15 (by kernel_rfl) rfl ?_ ?_ (ChangeSpec.witness6 (enc := enc) (C := Try.checked) false ⟨#[], #[.int .i64 0, .int .i64 0], []⟩ 8 (by kernel_rfl) (by kernel_rfl) (by kernel_rfl) (by kernel_rfl)) ?_
  · intro ds h
    match ds, h with
    | [d0, d1], _ => rfl
  · intro t ht
    rw [Try.params15] at ht
    simp only [List.mem_cons, List.not_mem_nil, or_false] at ht
    rcases ht with rfl | rfl
    · exact ⟨by kernel_rfl, of_decide_eq_true (by kernel_rfl)⟩
    · exact ⟨by kernel_rfl, of_decide_eq_true (by kernel_rfl)⟩
  · intro W base args ds ps hval hA
    rw [Try.params15] at hA hval
    obtain ⟨v0, vs0, d0, ds0, p0, e0, hargs, rfl, rfl, h0, r0⟩ := trodAll_cons hA
    obtain ⟨v1, vs1, d1, ds1, p1, e1, rfl, rfl, rfl, h1, r1⟩ := trodAll_cons r0
    obtain ⟨rfl, rfl, rfl⟩ := trodAll_nil r1
    obtain rfl : args = #[v0, v1] := by cases args; simp_all
    obtain ⟨n0, b0, m0⟩ := opn_int (hval 0 3 v0 rfl rfl) h0
    obtain ⟨n1, b1, m1⟩ := opn_int (hval 1 3 v1 rfl rfl) h1
    exact law_calls ok_PointSpots (xs := [.one (.val (.int .i64 n0)), .one (.val (.int .i64 n1))]) rfl ⟨b0, b1⟩ ⟨m0, m1, trivial⟩

theorem named_ : Try.prog.funcNamed Rows.pointSpotsRow.func = some 15 := by kernel_rfl
theorem row_ : rowFacts Try.prog Try.f15 Rows.pointSpotsSpec Rows.pointSpotsRow = true := by kernel_rfl
theorem place_ : (Rows.pointSpotsRow.inPlace == Try.prog.inPlace 15) = true := by kernel_rfl
theorem unfollowed_ : (Rows.pointSpotsRow.unfollowed == Try.prog.unfollowed 15) = true := by kernel_rfl
theorem recurses_ : (Rows.pointSpotsRow.recurses == Try.prog.recurses 15) = true := by kernel_rfl
theorem vars_ : (Rows.pointSpotsRow.named == Try.prog.varsNamed 15) = true := by kernel_rfl

theorem over : Rows.pointSpotsRow.holds Try.pinned (OpenSpec.ofChange Rows.pointSpotsSpec) :=
  OpenClaim.holds_of_wide 15 Try.f15 rfl rfl rfl rfl rfl rfl rfl ⟨rfl, rfl, rfl, rfl, rfl⟩ rfl rfl rfl rfl rfl named_ Try.func15 (facts_of row_ place_ unfollowed_ recurses_ vars_)
    (of_decide_eq_true (by kernel_rfl)) (by unfold Func.isWrapper; first | (rw [if_pos (by decide +kernel)]; kernel_rfl) | (rw [if_neg (by decide +kernel)]; exact ⟨rfl, rfl⟩))
    (fun os started H enc _ => lifted os started H enc)

/-- The given statement. -/
theorem proved : Rows.PointSpotsSaid := over
#print axioms proved
end Go.Proofs.Ytihmifpdnipdmaa.pointSpots
