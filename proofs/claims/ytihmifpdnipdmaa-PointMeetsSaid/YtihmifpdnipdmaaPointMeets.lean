/-
  PointMeets holds: the meeting point lies on both lines, and there is none exactly if they are parallel. Conditions: none beyond the statement's own.
-/
import Derived.Test.YtihmifpdnipdmaaLawRa
import Derived.Test.YtihmifpdnipdmaaFacts
import Derived.Test.YtihmifpdnipdmaaBridgeB
set_option linter.all false
namespace Go.Proofs.Ytihmifpdnipdmaa.pointMeets
open Go.ChangeShapes Go.WideShapes Go.ChangeAt Go.RowKit Go.Gm
set_option linter.unusedVariables false

set_option maxRecDepth 100000 in
theorem lifted (os : Os) (started : os.Started) (H : Type) (enc : TypeId × Value → H) :
    ReturnsInHanded {} Try.checked os 16 .any (Rows.pointMeetsSpec.pre6 enc Try.prog Try.f16 Rows.pointMeetsRow.domain false) (Rows.pointMeetsSpec.post enc Try.prog Try.f16 false true false false) := by
  refine law_lift started (by kernel_rfl) Try.func16 (by kernel_rfl) rfl ?_ ?_ (ChangeSpec.witness6 (enc := enc) (C := Try.checked) false ⟨#[], #[.agg #[.bool false, .slice none 0 0, .slice none 0 0, .bool false, .slice none 0 0, .slice none 0 0, .bool false, .slice none 0 0, .slice none 0 0, .bool false, .slice none 0 0, .slice none 0 0, .bool false, .slice none 0 0, .slice none 0 0, .bool false, .slice none 0 0, .slice none 0 0, .bool false, .slice none 0 0, .slice none 0 0, .bool false, .slice none 0 0, .slice none 0 0]], []⟩ 8 (by kernel_rfl) (by kernel_rfl) (by kernel_rfl) (by kernel_rfl)) ?_
  · intro ds h
    match ds, h with
    | [d0], _ => rfl
  · intro t ht
    rw [Try.params16] at ht
    simp only [List.mem_cons, List.not_mem_nil, or_false] at ht
    rcases ht with rfl
    · exact ⟨by kernel_rfl, of_decide_eq_true (by kernel_rfl)⟩
  · intro W base args ds ps hval hA
    rw [Try.params16] at hA hval
    obtain ⟨v0, vs0, d0, ds0, p0, e0, hargs, rfl, rfl, h0, r0⟩ := trodAll_cons hA
    obtain ⟨rfl, rfl, rfl⟩ := trodAll_nil r0
    obtain rfl : args = #[v0] := by cases args; simp_all
    obtain ⟨s0, l0, t0, z0, k0, u0, s1, l1, t1, z1, k1, u1, s2, l2, t2, z2, k2, u2, s3, l3, t3, z3, k3, u3, m0⟩ := opn_arr (hval 0 80 v0 rfl rfl) h0
    exact law_calls ok_PointMeets (xs := [.agg [.val (.bool s0), .nat l0, .nat t0, .val (.bool z0), .nat k0, .nat u0, .val (.bool s1), .nat l1, .nat t1, .val (.bool z1), .nat k1, .nat u1, .val (.bool s2), .nat l2, .nat t2, .val (.bool z2), .nat k2, .nat u2, .val (.bool s3), .nat l3, .nat t3, .val (.bool z3), .nat k3, .nat u3]]) rfl trivial ⟨m0, trivial⟩

theorem named_ : Try.prog.funcNamed Rows.pointMeetsRow.func = some 16 := by kernel_rfl
theorem row_ : rowFacts Try.prog Try.f16 Rows.pointMeetsSpec Rows.pointMeetsRow = true := by kernel_rfl
theorem place_ : (Rows.pointMeetsRow.inPlace == Try.prog.inPlace 16) = true := by kernel_rfl
theorem unfollowed_ : (Rows.pointMeetsRow.unfollowed == Try.prog.unfollowed 16) = true := by kernel_rfl
theorem recurses_ : (Rows.pointMeetsRow.recurses == Try.prog.recurses 16) = true := by kernel_rfl
theorem vars_ : (Rows.pointMeetsRow.named == Try.prog.varsNamed 16) = true := by kernel_rfl

theorem over : Rows.pointMeetsRow.holds Try.pinned (OpenSpec.ofChange Rows.pointMeetsSpec) :=
  OpenClaim.holds_of_wide 16 Try.f16 rfl rfl rfl rfl rfl rfl rfl ⟨rfl, rfl, rfl, rfl, rfl⟩ rfl rfl rfl rfl rfl named_ Try.func16 (facts_of row_ place_ unfollowed_ recurses_ vars_)
    (of_decide_eq_true (by kernel_rfl)) (by unfold Func.isWrapper; first | (rw [if_pos (by decide +kernel)]; kernel_rfl) | (rw [if_neg (by decide +kernel)]; exact ⟨rfl, rfl⟩))
    (fun os started H enc _ => lifted os started H enc)

/-- The given statement. -/
theorem proved : Rows.PointMeetsSaid := over
#print axioms proved
end Go.Proofs.Ytihmifpdnipdmaa.pointMeets
