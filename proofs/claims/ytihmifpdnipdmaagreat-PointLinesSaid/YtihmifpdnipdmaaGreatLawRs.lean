/-
  The statements about points: small. Plain theorems; no condition.
-/
import Derived.Test.YtihmifpdnipdmaaGreatLawP
set_option linter.all false
namespace Go.Gm
open Go.Proofs


attribute [local irreducible] mkRat rq meetD meetQ footD footQ mirQ rnd grdB cmpQ samePR lightPR

theorem nn0 : (0 : Int) ≤ 0 := by decide
theorem nn1 : (0 : Int) ≤ 1 := by decide
theorem nn2 : (0 : Int) ≤ 2 := by decide
theorem nn3 : (0 : Int) ≤ 3 := by decide
def sSmall4 : List RV → Option (Prop × Res)
  | [.agg [.b (.val (.bool s0)), .b (.nat l0), .b (.nat t0), .b (.val (.bool z0)), .b (.nat k0), .b (.nat u0), .b (.val (.bool s1)), .b (.nat l1), .b (.nat t1), .b (.val (.bool z1)), .b (.nat k1), .b (.nat u1), .b (.val (.bool s2)), .b (.nat l2), .b (.nat t2), .b (.val (.bool z2)), .b (.nat k2), .b (.nat u2), .b (.val (.bool s3)), .b (.nat l3), .b (.nat t3), .b (.val (.bool z3)), .b (.nat k3), .b (.nat u3)]] => some (True, .r (.val (.bool ((lightPR 3 ⟨s0, l0, t0, z0, k0, u0⟩) && (lightPR 3 ⟨s1, l1, t1, z1, k1, u1⟩) && (lightPR 3 ⟨s2, l2, t2, z2, k2, u2⟩) && (lightPR 3 ⟨s3, l3, t3, z3, k3, u3⟩)))))
  | _ => none

set_option maxRecDepth 20000 in
set_option maxHeartbeats 8000000 in
theorem ok_Small4 : Ok1 4 sSmall4 := by
  refine ok_of TW1_ok Tryz.func4 rfl (by kernel_rfl) ?_
  intro xs pre res h hp hlim
  unfold sSmall4 at h
  split at h
  · rename_i s0 l0 t0 z0 k0 u0 s1 l1 t1 z1 k1 u1 s2 l2 t2 z2 k2 u2 s3 l3 t3 z3 k3 u3
    cases h
    refine And.intro (Nat.le_of_ble_eq_true rfl) ?_
    repeat first | refine And.intro rfl ?_ | refine Or.inl (And.intro rfl ?_) | refine Or.inr (And.intro rfl ?_) | refine And.intro (fun (_ : true = true) => ?_) (fun (h : true = false) => Bool.noConfusion h) | refine And.intro (fun (h : false = true) => Bool.noConfusion h) (fun (_ : false = false) => ?_)
    repeat first | refine And.intro nn0 ?_ | refine And.intro nn1 ?_ | refine And.intro nn2 ?_ | refine And.intro nn3 ?_ | refine And.intro rfl ?_ | refine And.intro True.intro ?_ | refine Or.inl (And.intro rfl ?_) | refine Or.inr (And.intro rfl ?_) | refine And.intro (fun (_ : true = true) => ?_) (fun (h : true = false) => Bool.noConfusion h) | refine And.intro (fun (h : false = true) => Bool.noConfusion h) (fun (_ : false = false) => ?_)
    by_cases g0 : (lightPR 3 ⟨s0, l0, t0, z0, k0, u0⟩) = true
    case neg =>
      refine Or.inr (And.intro (show (lightPR 3 ⟨s0, l0, t0, z0, k0, u0⟩) = false by simpa using g0) ?_)
      repeat first | refine And.intro nn0 ?_ | refine And.intro nn1 ?_ | refine And.intro nn2 ?_ | refine And.intro nn3 ?_ | refine And.intro rfl ?_ | refine And.intro True.intro ?_ | refine Or.inl (And.intro rfl ?_) | refine Or.inr (And.intro rfl ?_) | refine And.intro (fun (_ : true = true) => ?_) (fun (h : true = false) => Bool.noConfusion h) | refine And.intro (fun (h : false = true) => Bool.noConfusion h) (fun (_ : false = false) => ?_)
      exact resB (by simp [g0])
    refine Or.inl (And.intro g0 ?_)
    repeat first | refine And.intro nn0 ?_ | refine And.intro nn1 ?_ | refine And.intro nn2 ?_ | refine And.intro nn3 ?_ | refine And.intro rfl ?_ | refine And.intro True.intro ?_ | refine Or.inl (And.intro rfl ?_) | refine Or.inr (And.intro rfl ?_) | refine And.intro (fun (_ : true = true) => ?_) (fun (h : true = false) => Bool.noConfusion h) | refine And.intro (fun (h : false = true) => Bool.noConfusion h) (fun (_ : false = false) => ?_)
    by_cases g1 : (lightPR 3 ⟨s1, l1, t1, z1, k1, u1⟩) = true
    case neg =>
      refine Or.inr (And.intro (show (lightPR 3 ⟨s1, l1, t1, z1, k1, u1⟩) = false by simpa using g1) ?_)
      repeat first | refine And.intro nn0 ?_ | refine And.intro nn1 ?_ | refine And.intro nn2 ?_ | refine And.intro nn3 ?_ | refine And.intro rfl ?_ | refine And.intro True.intro ?_ | refine Or.inl (And.intro rfl ?_) | refine Or.inr (And.intro rfl ?_) | refine And.intro (fun (_ : true = true) => ?_) (fun (h : true = false) => Bool.noConfusion h) | refine And.intro (fun (h : false = true) => Bool.noConfusion h) (fun (_ : false = false) => ?_)
      exact resB (by simp [g0, g1])
    refine Or.inl (And.intro g1 ?_)
    repeat first | refine And.intro nn0 ?_ | refine And.intro nn1 ?_ | refine And.intro nn2 ?_ | refine And.intro nn3 ?_ | refine And.intro rfl ?_ | refine And.intro True.intro ?_ | refine Or.inl (And.intro rfl ?_) | refine Or.inr (And.intro rfl ?_) | refine And.intro (fun (_ : true = true) => ?_) (fun (h : true = false) => Bool.noConfusion h) | refine And.intro (fun (h : false = true) => Bool.noConfusion h) (fun (_ : false = false) => ?_)
    by_cases g2 : (lightPR 3 ⟨s2, l2, t2, z2, k2, u2⟩) = true
    case neg =>
      refine Or.inr (And.intro (show (lightPR 3 ⟨s2, l2, t2, z2, k2, u2⟩) = false by simpa using g2) ?_)
      repeat first | refine And.intro nn0 ?_ | refine And.intro nn1 ?_ | refine And.intro nn2 ?_ | refine And.intro nn3 ?_ | refine And.intro rfl ?_ | refine And.intro True.intro ?_ | refine Or.inl (And.intro rfl ?_) | refine Or.inr (And.intro rfl ?_) | refine And.intro (fun (_ : true = true) => ?_) (fun (h : true = false) => Bool.noConfusion h) | refine And.intro (fun (h : false = true) => Bool.noConfusion h) (fun (_ : false = false) => ?_)
      exact resB (by simp [g0, g1, g2])
    refine Or.inl (And.intro g2 ?_)
    repeat first | refine And.intro nn0 ?_ | refine And.intro nn1 ?_ | refine And.intro nn2 ?_ | refine And.intro nn3 ?_ | refine And.intro rfl ?_ | refine And.intro True.intro ?_ | refine Or.inl (And.intro rfl ?_) | refine Or.inr (And.intro rfl ?_) | refine And.intro (fun (_ : true = true) => ?_) (fun (h : true = false) => Bool.noConfusion h) | refine And.intro (fun (h : false = true) => Bool.noConfusion h) (fun (_ : false = false) => ?_)
    exact resB (by simp [g0, g1, g2])
  · cases h

def TW3 : Table := (4, sSmall4) :: TW1
theorem TW3_ok : TabOk TW3 := TabOk.cons ok_Small4 TW1_ok


end Go.Gm
