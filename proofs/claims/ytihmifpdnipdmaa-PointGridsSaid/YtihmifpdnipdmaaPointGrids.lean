/-
  PointGrids holds: the points of a line and the rounded points are those of the chapter. Conditions: none beyond the statement's own.
-/
import Derived.Test.YtihmifpdnipdmaaLawRc
import Derived.Test.YtihmifpdnipdmaaFacts
set_option linter.all false
namespace Go.Proofs.Ytihmifpdnipdmaa.pointGrids
open Go.ChangeShapes Go.WideShapes Go.ChangeAt Go.RowKit Go.Gm
set_option linter.unusedVariables false

set_option maxRecDepth 100000 in
theorem lifted (os : Os) (started : os.Started) (H : Type) (enc : TypeId × Value → H) :
    ReturnsInHanded {} Try.checked os 14 .any (Rows.pointGridsSpec.pre6 enc Try.prog Try.f14 Rows.pointGridsRow.domain false) (Rows.pointGridsSpec.post enc Try.prog Try.f14 false true false false) := by
  refine law_lift started (by kernel_rfl) Try.func14 (by kernel_rfl) rfl ?_ ?_ (ChangeSpec.witness6 (enc := enc) (C := Try.checked) false ⟨#[], #[.agg #[.bool false, .slice none 0 0, .slice none 0 0, .bool false, .slice none 0 0, .slice none 0 0], .agg #[.bool false, .slice none 0 0, .slice none 0 0, .bool false, .slice none 0 0, .slice none 0 0], .agg #[.bool false, .slice none 0 0, .slice none 0 0]], []⟩ 8 (by kernel_rfl) (by kernel_rfl) (by kernel_rfl) (by kernel_rfl)) ?_
  · intro ds h
    match ds, h with
    | [d0, d1, d2], _ => rfl
  · intro t ht
    rw [Try.params14] at ht
    simp only [List.mem_cons, List.not_mem_nil, or_false] at ht
    rcases ht with rfl | rfl | rfl
    · exact ⟨by kernel_rfl, of_decide_eq_true (by kernel_rfl)⟩
    · exact ⟨by kernel_rfl, of_decide_eq_true (by kernel_rfl)⟩
    · exact ⟨by kernel_rfl, of_decide_eq_true (by kernel_rfl)⟩
  · intro W base args ds ps hval hA
    rw [Try.params14] at hA hval
    obtain ⟨v0, vs0, d0, ds0, p0, e0, hargs, rfl, rfl, h0, r0⟩ := trodAll_cons hA
    obtain ⟨v1, vs1, d1, ds1, p1, e1, rfl, rfl, rfl, h1, r1⟩ := trodAll_cons r0
    obtain ⟨v2, vs2, d2, ds2, p2, e2, rfl, rfl, rfl, h2, r2⟩ := trodAll_cons r1
    obtain ⟨rfl, rfl, rfl⟩ := trodAll_nil r2
    obtain rfl : args = #[v0, v1, v2] := by cases args; simp_all
    obtain ⟨s0, l0, t0, z0, k0, u0, m0⟩ := opn_pt (hval 0 38 v0 rfl rfl) h0
    obtain ⟨s1, l1, t1, z1, k1, u1, m1⟩ := opn_pt (hval 1 38 v1 rfl rfl) h1
    obtain ⟨s2, l2, t2, m2⟩ := opn_ratio (hval 2 36 v2 rfl rfl) h2
    exact law_calls ok_PointGrids (xs := [.agg [.val (.bool s0), .nat l0, .nat t0, .val (.bool z0), .nat k0, .nat u0], .agg [.val (.bool s1), .nat l1, .nat t1, .val (.bool z1), .nat k1, .nat u1], .agg [.val (.bool s2), .nat l2, .nat t2]]) rfl trivial ⟨m0, m1, m2, trivial⟩

theorem named_ : Try.prog.funcNamed Rows.pointGridsRow.func = some 14 := by kernel_rfl
theorem row_ : rowFacts Try.prog Try.f14 Rows.pointGridsSpec Rows.pointGridsRow = true := by kernel_rfl
theorem place_ : (Rows.pointGridsRow.inPlace == Try.prog.inPlace 14) = true := by kernel_rfl
theorem unfollowed_ : (Rows.pointGridsRow.unfollowed == Try.prog.unfollowed 14) = true := by kernel_rfl
theorem recurses_ : (Rows.pointGridsRow.recurses == Try.prog.recurses 14) = true := by kernel_rfl
theorem vars_ : (Rows.pointGridsRow.named == Try.prog.varsNamed 14) = true := by kernel_rfl

theorem over : Rows.pointGridsRow.holds Try.pinned (OpenSpec.ofChange Rows.pointGridsSpec) :=
  OpenClaim.holds_of_wide 14 Try.f14 rfl rfl rfl rfl rfl rfl rfl ⟨rfl, rfl, rfl, rfl, rfl⟩ rfl rfl rfl rfl rfl named_ Try.func14 (facts_of row_ place_ unfollowed_ recurses_ vars_)
    (of_decide_eq_true (by kernel_rfl)) (by unfold Func.isWrapper; first | (rw [if_pos (by decide +kernel)]; kernel_rfl) | (rw [if_neg (by decide +kernel)]; exact ⟨rfl, rfl⟩))
    (fun os started H enc _ => lifted os started H enc)

/-- The given statement. -/
theorem proved : Rows.PointGridsSaid := over
#print axioms proved
end Go.Proofs.Ytihmifpdnipdmaa.pointGrids
