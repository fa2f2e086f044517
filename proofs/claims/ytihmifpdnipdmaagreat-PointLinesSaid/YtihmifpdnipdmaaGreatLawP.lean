/-
  The statements about points: PointAlgebra. Plain theorems; no condition.
-/
import Derived.Test.YtihmifpdnipdmaaGreatAw2
set_option linter.all false
namespace Go.Gm
open Go.Proofs

def TW1 : Table := [(5, sTrue0), (67, sRatNeg)] ++ TW0
theorem TW1_ok : TabOk TW1 := TabOk.append (TabOk.cons ok_awake (TabOk.cons ok_ratNeg TabOk.nil)) TW0_ok

theorem cmpN {a b : Rat} (h : a = b) : (!(cmpQ a b == 0)) = false := by rw [cmpQ_zero, decide_eq_true h]; rfl
theorem cmpE {a b : Rat} (h : a = b) : (cmpQ a b == 0) = true := by rw [cmpQ_zero, decide_eq_true h]

attribute [local irreducible] mkRat rq meetD meetQ footD footQ mirQ rnd grdB cmpQ samePR lightPR

end Go.Gm
