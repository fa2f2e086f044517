/-
  For every input the law PointSides (garmentlaw08) returns true, and its arguments read afterwards as they did: no condition.
-/
import Derived.Test.YtihmifpdnipdmaaLawQa
import Derived.Test.YtihmifpdnipdmaaFacts
set_option linter.all false
namespace Go.Proofs.Ytihmifpdnipdmaa.pointSides
open Go.ChangeShapes Go.WideShapes Go.ChangeAt Go.RowKit Go.Gm
set_option linter.unusedVariables false

set_option maxRecDepth 100000 in
theorem lifted (os : Os) (started : os.Started) (H : Type) (enc : TypeId × Value → H) :
    ReturnsInHanded {} Try.checked os 21 .any (Rows.pointSidesSpec.pre6 enc Try.prog Try.f21 Rows.pointSidesRow.domain false) (Rows.pointSidesSpec.post enc Try.prog Try.f21 false true false false) := by
  refine law_lift started (by kernel_rfl) Try.func21 (by kernel_rfl) rfl ?_ ?_ (ChangeSpec.witness6 (enc := enc) (C := Try.checked) false ⟨#[], #[.agg #[.bool false, .slice none 0 0, .slice none 0 0, .bool false, .slice none 0 0, .slice none 0 0], .agg #[.bool false, .slice none 0 0, .slice none 0 0, .bool false, .slice none 0 0, .slice none 0 0], .agg #[.bool false, .slice none 0 0, .slice none 0 0, .bool false, .slice none 0 0, .slice none 0 0], .agg #[.bool false, .slice none 0 0, .slice none 0 0]], []⟩ 8 (by kernel_rfl) (by kernel_rfl) (by kernel_rfl) (by kernel_rfl)) ?_
  · intro ds h
    match ds, h with
    | [d0, d1, d2, d3], _ => rfl
  · intro t ht
    rw [Try.params21] at ht
    simp only [List.mem_cons, List.not_mem_nil, or_false] at ht
    rcases ht with rfl | rfl | rfl | rfl
    · exact ⟨by kernel_rfl, of_decide_eq_true (by kernel_rfl)⟩
    · exact ⟨by kernel_rfl, of_decide_eq_true (by kernel_rfl)⟩
    · exact ⟨by kernel_rfl, of_decide_eq_true (by kernel_rfl)⟩
    · exact ⟨by kernel_rfl, of_decide_eq_true (by kernel_rfl)⟩
  · intro W base args ds ps hval hA
    rw [Try.params21] at hA hval
    obtain ⟨v0, vs0, d0, ds0, p0, e0, hargs, rfl, rfl, h0, r0⟩ := trodAll_cons hA
    obtain ⟨v1, vs1, d1, ds1, p1, e1, rfl, rfl, rfl, h1, r1⟩ := trodAll_cons r0
    obtain ⟨v2, vs2, d2, ds2, p2, e2, rfl, rfl, rfl, h2, r2⟩ := trodAll_cons r1
    obtain ⟨v3, vs3, d3, ds3, p3, e3, rfl, rfl, rfl, h3, r3⟩ := trodAll_cons r2
    obtain ⟨rfl, rfl, rfl⟩ := trodAll_nil r3
    obtain rfl : args = #[v0, v1, v2, v3] := by cases args; simp_all
    obtain ⟨s0, l0, t0, z0, k0, u0, m0⟩ := opn_pt (hval 0 38 v0 rfl rfl) h0
    obtain ⟨s1, l1, t1, z1, k1, u1, m1⟩ := opn_pt (hval 1 38 v1 rfl rfl) h1
    obtain ⟨s2, l2, t2, z2, k2, u2, m2⟩ := opn_pt (hval 2 38 v2 rfl rfl) h2
    obtain ⟨s3, l3, t3, m3⟩ := opn_ratio (hval 3 36 v3 rfl rfl) h3
    exact law_calls ok_PointSides (xs := [.agg [.val (.bool s0), .nat l0, .nat t0, .val (.bool z0), .nat k0, .nat u0], .agg [.val (.bool s1), .nat l1, .nat t1, .val (.bool z1), .nat k1, .nat u1], .agg [.val (.bool s2), .nat l2, .nat t2, .val (.bool z2), .nat k2, .nat u2], .agg [.val (.bool s3), .nat l3, .nat t3]]) rfl trivial ⟨m0, m1, m2, m3, trivial⟩

theorem named_ : Try.prog.funcNamed Rows.pointSidesRow.func = some 21 := by kernel_rfl
theorem row_ : rowFacts Try.prog Try.f21 Rows.pointSidesSpec Rows.pointSidesRow = true := by kernel_rfl
theorem place_ : (Rows.pointSidesRow.inPlace == Try.prog.inPlace 21) = true := by kernel_rfl
theorem unfollowed_ : (Rows.pointSidesRow.unfollowed == Try.prog.unfollowed 21) = true := by kernel_rfl
theorem recurses_ : (Rows.pointSidesRow.recurses == Try.prog.recurses 21) = true := by kernel_rfl
theorem vars_ : (Rows.pointSidesRow.named == Try.prog.varsNamed 21) = true := by kernel_rfl

theorem over : Rows.pointSidesRow.holds Try.pinned (OpenSpec.ofChange Rows.pointSidesSpec) :=
  OpenClaim.holds_of_wide 21 Try.f21 rfl rfl rfl rfl rfl rfl rfl ⟨rfl, rfl, rfl, rfl, rfl⟩ rfl rfl rfl rfl rfl named_ Try.func21 (facts_of row_ place_ unfollowed_ recurses_ vars_)
    (of_decide_eq_true (by kernel_rfl)) (by unfold Func.isWrapper; first | (rw [if_pos (by decide +kernel)]; kernel_rfl) | (rw [if_neg (by decide +kernel)]; exact ⟨rfl, rfl⟩))
    (fun os started H enc _ => lifted os started H enc)

/-- The given statement. -/
theorem proved : Rows.PointSidesSaid := over
#print axioms proved
end Go.Proofs.Ytihmifpdnipdmaa.pointSides
