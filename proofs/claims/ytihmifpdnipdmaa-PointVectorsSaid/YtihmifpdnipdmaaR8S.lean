/-
  The points of the reference: Same. Plain theorems; no condition.
-/
import Derived.Test.YtihmifpdnipdmaaR8
import Derived.Test.YtihmifpdnipdmaaAw2
set_option linter.all false
namespace Go.Gm
open Go.Proofs

theorem ok_r8Same : Ok1 82 sPtSame := by
  refine ok_of TQt0_ok Try.func82 rfl (by kernel_rfl) ?_
  intro xs pre res h hp hlim
  unfold sPtSame at h
  split at h
  · rename_i s l t s2 l2 t2 s' l' t' s2' l2' t2'
    cases h
    obtain ⟨h1, h2⟩ := hp
    refine And.intro (Nat.le_of_ble_eq_true rfl) ?_
    repeat first | refine And.intro rfl ?_ | refine Or.inl (And.intro rfl ?_) | refine Or.inr (And.intro rfl ?_) | refine And.intro (fun (_ : true = true) => ?_) (fun (h : true = false) => Bool.noConfusion h) | refine And.intro (fun (h : false = true) => Bool.noConfusion h) (fun (_ : false = false) => ?_)
    refine And.intro h1 ?_
    repeat first | refine And.intro rfl ?_ | refine Or.inl (And.intro rfl ?_) | refine Or.inr (And.intro rfl ?_) | refine And.intro (fun (_ : true = true) => ?_) (fun (h : true = false) => Bool.noConfusion h) | refine And.intro (fun (h : false = true) => Bool.noConfusion h) (fun (_ : false = false) => ?_)
    by_cases hx : rq s l t = rq s' l' t'
    · refine Or.inl (And.intro (show (cmpQ (rq s l t) (rq s' l' t') == 0) = true by rw [cmpQ_zero]; exact decide_eq_true hx) ?_)
      repeat first | refine And.intro rfl ?_ | refine Or.inl (And.intro rfl ?_) | refine Or.inr (And.intro rfl ?_) | refine And.intro (fun (_ : true = true) => ?_) (fun (h : true = false) => Bool.noConfusion h) | refine And.intro (fun (h : false = true) => Bool.noConfusion h) (fun (_ : false = false) => ?_)
      refine And.intro h2 ?_
      repeat first | refine And.intro rfl ?_ | refine Or.inl (And.intro rfl ?_) | refine Or.inr (And.intro rfl ?_) | refine And.intro (fun (_ : true = true) => ?_) (fun (h : true = false) => Bool.noConfusion h) | refine And.intro (fun (h : false = true) => Bool.noConfusion h) (fun (_ : false = false) => ?_)
      refine resB ?_
      show (cmpQ (rq s2 l2 t2) (rq s2' l2' t2') == 0) = _
      rw [cmpQ_zero]
      simp [hx]
    · refine Or.inr (And.intro (show (cmpQ (rq s l t) (rq s' l' t') == 0) = false by rw [cmpQ_zero]; exact decide_eq_false hx) ?_)
      repeat first | refine And.intro rfl ?_ | refine Or.inl (And.intro rfl ?_) | refine Or.inr (And.intro rfl ?_) | refine And.intro (fun (_ : true = true) => ?_) (fun (h : true = false) => Bool.noConfusion h) | refine And.intro (fun (h : false = true) => Bool.noConfusion h) (fun (_ : false = false) => ?_)
      exact resB (by simp [hx])
  · cases h


end Go.Gm
