/-
  The turns of the program, part E: the chapter's examples. Plain theorems; no condition.
-/
import Derived.Test.YtihmifpdnipdmaaTurnD
set_option linter.all false
namespace Go.Gm
open Go.Proofs

def TT2 : Table := [(45, sAll), (46, sAll), (43, sPoly), (44, sPoly), (42, sSameSpots), (59, sPtOf), (55, sPtSame), (39, sTurnPoint), (60, sRatCmp)] ++ TT1
theorem TT2_ok : TabOk TT2 := TabOk.append (TabOk.cons ok_all (TabOk.cons ok_refAll (TabOk.cons ok_poly (TabOk.cons ok_refPoly (TabOk.cons ok_sameSpots (TabOk.cons ok_ptOf (TabOk.cons ok_ptSame (TabOk.cons ok_turnPoint (TabOk.cons ok_ratCmp TabOk.nil))))))))) TT1_ok

theorem apQ_quarter (p : Rat × Rat) : apQ false 1 p = (-p.2, p.1) := rfl

theorem ex12 (x y u v : Int) (h1 : u = -y) (h2 : v = x) : decide (rqc (apQ false 1 (rqc (x : Rat), rqc (y : Rat))).1 = rqc (u : Rat) ∧ rqc (apQ false 1 (rqc (x : Rat), rqc (y : Rat))).2 = rqc (v : Rat)) = true := by
  subst h1
  subst h2
  rw [apQ_quarter]
  have e : ∀ q : Rat, rqc q = q := rq_cq
  refine decide_eq_true ⟨?_, ?_⟩
  · show rqc (-(rqc (y : Rat))) = rqc ((-y : Int) : Rat)
    rw [e, e, e, Rat.intCast_neg]
  · show rqc (rqc (v : Rat)) = rqc (v : Rat)
    rw [e]

theorem ex12pre (x y u v : Int) (hx : InR x) (hy : InR y) (hu : InR u) (hv : InR v) :
    ((dg (apQ false 1 (rqc (x : Rat), rqc (y : Rat))).1.num.natAbs).length ≤ 40000 ∧ (dg (apQ false 1 (rqc (x : Rat), rqc (y : Rat))).1.den).length ≤ 40000 ∧ (dg (u : Rat).num.natAbs).length ≤ 40000 ∧ (dg (u : Rat).den).length ≤ 40000) ∧
    ((dg (apQ false 1 (rqc (x : Rat), rqc (y : Rat))).2.num.natAbs).length ≤ 40000 ∧ (dg (apQ false 1 (rqc (x : Rat), rqc (y : Rat))).2.den).length ≤ 40000 ∧ (dg (v : Rat).num.natAbs).length ≤ 40000 ∧ (dg (v : Rat).den).length ≤ 40000) := by
  rw [apQ_quarter]
  unfold rqc
  simp only [rq_cq]
  have a := whole_sz hx
  have b := (whole_sz hy).neg
  have c := whole_sz hu
  have d := whole_sz hv
  exact ⟨⟨b.lenN (by decide), b.lenD (by decide), c.lenN (by decide), c.lenD (by decide)⟩, a.lenN (by decide), a.lenD (by decide), d.lenN (by decide), d.lenD (by decide)⟩

set_option maxHeartbeats 1000000 in
theorem ok_example12 : Ok1 37 sTrue0 := by
  refine ok_of TT2_ok Try.func37 rfl (by kernel_rfl) ?_
  intro xs pre res h hp hlim
  unfold sTrue0 at h
  split at h
  · cases h
    refine And.intro (Nat.le_of_ble_eq_true rfl) ?_
    repeat first | refine And.intro rfl ?_ | refine And.intro True.intro ?_ | refine Or.inl (And.intro rfl ?_) | refine Or.inr (And.intro rfl ?_) | refine And.intro (fun (_ : true = true) => ?_) (fun (h : true = false) => Bool.noConfusion h) | refine And.intro (fun (h : false = true) => Bool.noConfusion h) (fun (_ : false = false) => ?_)
    refine And.intro (show IsSp [zSp, [.val (.int .i64 2), .val (.int .i64 0)], [.val (.int .i64 0), .val (.int .i64 1)]] ∧ 3 ≤ 100000 from ⟨rfl, by decide⟩) ?_
    repeat first | refine And.intro rfl ?_ | refine And.intro True.intro ?_ | refine Or.inl (And.intro rfl ?_) | refine Or.inr (And.intro rfl ?_) | refine And.intro (fun (_ : true = true) => ?_) (fun (h : true = false) => Bool.noConfusion h) | refine And.intro (fun (h : false = true) => Bool.noConfusion h) (fun (_ : false = false) => ?_)
    refine And.intro (And.intro (isSp_map _) (And.intro rfl (And.intro (by rw [List.length_map, polyL_len]; decide) (by decide)))) ?_
    repeat first | refine And.intro rfl ?_ | refine And.intro True.intro ?_ | refine Or.inl (And.intro rfl ?_) | refine Or.inr (And.intro rfl ?_) | refine And.intro (fun (_ : true = true) => ?_) (fun (h : true = false) => Bool.noConfusion h) | refine And.intro (fun (h : false = true) => Bool.noConfusion h) (fun (_ : false = false) => ?_)
    refine And.intro (show InR 3 ∧ InR 1 from ⟨by decide, by decide⟩) ?_
    repeat first | refine And.intro rfl ?_ | refine And.intro True.intro ?_ | refine Or.inl (And.intro rfl ?_) | refine Or.inr (And.intro rfl ?_) | refine And.intro (fun (_ : true = true) => ?_) (fun (h : true = false) => Bool.noConfusion h) | refine And.intro (fun (h : false = true) => Bool.noConfusion h) (fun (_ : false = false) => ?_)
    refine And.intro (And.intro (whole_pre 3 (by decide)) (whole_pre 1 (by decide))) ?_
    repeat first | refine And.intro rfl ?_ | refine And.intro True.intro ?_ | refine Or.inl (And.intro rfl ?_) | refine Or.inr (And.intro rfl ?_) | refine And.intro (fun (_ : true = true) => ?_) (fun (h : true = false) => Bool.noConfusion h) | refine And.intro (fun (h : false = true) => Bool.noConfusion h) (fun (_ : false = false) => ?_)
    refine And.intro (show InR (-1) ∧ InR 3 from ⟨by decide, by decide⟩) ?_
    repeat first | refine And.intro rfl ?_ | refine And.intro True.intro ?_ | refine Or.inl (And.intro rfl ?_) | refine Or.inr (And.intro rfl ?_) | refine And.intro (fun (_ : true = true) => ?_) (fun (h : true = false) => Bool.noConfusion h) | refine And.intro (fun (h : false = true) => Bool.noConfusion h) (fun (_ : false = false) => ?_)
    refine And.intro (ex12pre 3 1 (-1) 3 (by decide) (by decide) (by decide) (by decide)) ?_
    exact resB (ex12 3 1 (-1) 3 rfl rfl)
  · cases h
end Go.Gm
