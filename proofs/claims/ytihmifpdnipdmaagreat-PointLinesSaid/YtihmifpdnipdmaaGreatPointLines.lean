/-
  For every input the law PointLines (garmentlaw08) returns true, and its arguments read afterwards as they did: no condition.
-/
import Derived.Test.YtihmifpdnipdmaaGreatLawRd
import Derived.Test.YtihmifpdnipdmaaGreatFacts
import Derived.Test.YtihmifpdnipdmaaGreatBridgeB
set_option linter.all false
namespace Go.Proofs.YtihmifpdnipdmaaGreat.pointLines
open Go.ChangeShapes Go.WideShapes Go.ChangeAt Go.RowKit Go.Gm
set_option linter.unusedVariables false

set_option maxRecDepth 100000 in
theorem lifted (os : Os) (started : os.Started) (H : Type) (enc : TypeId × Value → H) :
    ReturnsInHanded {} Tryz.checked os 3 .any (Rows.pointLinesSpec.pre6 enc Tryz.prog Tryz.f3 Rows.pointLinesRow.domain false) (Rows.pointLinesSpec.post enc Tryz.prog Tryz.f3 false true false false) := by
  refine law_lift started (by kernel_rfl) Tryz.func3 (by kernel_rfl) rfl ?_ ?_ (ChangeSpec.witness6 (enc := enc) (C := Tryz.checked) false ⟨#[], #[.agg #[.bool false, .slice none 0 0, .slice none 0 0, .bool false, .slice none 0 0, .slice none 0 0, .bool false, .slice none 0 0, .slice none 0 0, .bool false, .slice none 0 0, .slice none 0 0, .bool false, .slice none 0 0, .slice none 0 0, .bool false, .slice none 0 0, .slice none 0 0, .bool false, .slice none 0 0, .slice none 0 0, .bool false, .slice none 0 0, .slice none 0 0]], []⟩ 8 (by kernel_rfl) (by kernel_rfl) (by kernel_rfl) (by kernel_rfl)) ?_
  · intro ds h
    match ds, h with
    | [d0], _ => rfl
  · intro t ht
    rw [Tryz.params3] at ht
    simp only [List.mem_cons, List.not_mem_nil, or_false] at ht
    rcases ht with rfl
    · exact ⟨by kernel_rfl, of_decide_eq_true (by kernel_rfl)⟩
  · intro W base args ds ps hval hA
    rw [Tryz.params3] at hA hval
    obtain ⟨v0, vs0, d0, ds0, p0, e0, hargs, rfl, rfl, h0, r0⟩ := trodAll_cons hA
    obtain ⟨rfl, rfl, rfl⟩ := trodAll_nil r0
    obtain rfl : args = #[v0] := by cases args; simp_all
    obtain ⟨s0, l0, t0, z0, k0, u0, s1, l1, t1, z1, k1, u1, s2, l2, t2, z2, k2, u2, s3, l3, t3, z3, k3, u3, m0⟩ := opn_arr (hval 0 30 v0 rfl rfl) h0
    exact law_calls ok_PointLines (xs := [.agg [.val (.bool s0), .nat l0, .nat t0, .val (.bool z0), .nat k0, .nat u0, .val (.bool s1), .nat l1, .nat t1, .val (.bool z1), .nat k1, .nat u1, .val (.bool s2), .nat l2, .nat t2, .val (.bool z2), .nat k2, .nat u2, .val (.bool s3), .nat l3, .nat t3, .val (.bool z3), .nat k3, .nat u3]]) rfl trivial ⟨m0, trivial⟩

theorem named_ : Tryz.prog.funcNamed Rows.pointLinesRow.func = some 3 := by kernel_rfl
theorem row_ : rowFacts Tryz.prog Tryz.f3 Rows.pointLinesSpec Rows.pointLinesRow = true := by kernel_rfl
theorem place_ : (Rows.pointLinesRow.inPlace == Tryz.prog.inPlace 3) = true := by kernel_rfl
theorem unfollowed_ : (Rows.pointLinesRow.unfollowed == Tryz.prog.unfollowed 3) = true := by kernel_rfl
theorem recurses_ : (Rows.pointLinesRow.recurses == Tryz.prog.recurses 3) = true := by kernel_rfl
theorem vars_ : (Rows.pointLinesRow.named == Tryz.prog.varsNamed 3) = true := by kernel_rfl

theorem over : Rows.pointLinesRow.holds Tryz.pinned (OpenSpec.ofChange Rows.pointLinesSpec) :=
  OpenClaim.holds_of_wide 3 Tryz.f3 rfl rfl rfl rfl rfl rfl rfl ⟨rfl, rfl, rfl, rfl, rfl⟩ rfl rfl rfl rfl rfl named_ Tryz.func3 (facts_of row_ place_ unfollowed_ recurses_ vars_)
    (of_decide_eq_true (by kernel_rfl)) (by unfold Func.isWrapper; first | (rw [if_pos (by decide +kernel)]; kernel_rfl) | (rw [if_neg (by decide +kernel)]; exact ⟨rfl, rfl⟩))
    (fun os started H enc _ => lifted os started H enc)

/-- The given statement. -/
theorem proved : Rows.PointLinesSaid := over
#print axioms proved
end Go.Proofs.YtihmifpdnipdmaaGreat.pointLines
