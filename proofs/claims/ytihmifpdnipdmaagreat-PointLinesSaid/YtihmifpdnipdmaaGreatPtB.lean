/-
  The points of the program, part B: Meet, Foot, Mirror. Plain theorems; no condition.
-/
import Derived.Test.YtihmifpdnipdmaaGreatPt
import Derived.Test.YtihmifpdnipdmaaGreatPts
set_option linter.all false
namespace Go.Gm
open Go.Proofs

abbrev dz (z : Bool) (p : Rat × Rat) : List CV := dq z p.1 ++ dq z p.2
def subP (a b : Rat × Rat) : Rat × Rat := (a.1 - b.1, a.2 - b.2)
def addP (a b : Rat × Rat) : Rat × Rat := (a.1 + b.1, a.2 + b.2)
def crs (a b : Rat × Rat) : Rat := a.1 * b.2 - a.2 * b.1
def dotP (a b : Rat × Rat) : Rat := a.1 * b.1 + a.2 * b.2
def meetD (a b c d : Rat × Rat) : Rat := crs (subP b a) (subP d c)
def meetQ (a b c d : Rat × Rat) : Rat × Rat := onP a b (crs (subP c a) (subP d c) / meetD a b c d)
def footD (a b : Rat × Rat) : Rat := dotP (subP b a) (subP b a)
def footQ (p a b : Rat × Rat) : Rat × Rat := onP a b (dotP (subP p a) (subP b a) / footD a b)
def mirQ (p a b : Rat × Rat) : Rat × Rat := subP (addP (footQ p a b) (footQ p a b)) p


def TPtB : Table := [(13, sPtSide), (20, sPtOn)] ++ TPt1
theorem TPtB_ok : TabOk TPtB := TabOk.append (TabOk.cons ok_ptSide (TabOk.cons ok_ptOn TabOk.nil)) TPt1_ok

def sMeet : List RV → Option (Prop × Res)
  | [.agg [.b (.val (.bool s0)), .b (.nat l0), .b (.nat t0), .b (.val (.bool z0)), .b (.nat k0), .b (.nat u0)], .agg [.b (.val (.bool s1)), .b (.nat l1), .b (.nat t1), .b (.val (.bool z1)), .b (.nat k1), .b (.nat u1)], .agg [.b (.val (.bool s2)), .b (.nat l2), .b (.nat t2), .b (.val (.bool z2)), .b (.nat k2), .b (.nat u2)], .agg [.b (.val (.bool s3)), .b (.nat l3), .b (.nat t3), .b (.val (.bool z3)), .b (.nat k3), .b (.nat u3)]] => some (l0.length ≤ 200 ∧ t0.length ≤ 200 ∧ k0.length ≤ 200 ∧ u0.length ≤ 200 ∧ l1.length ≤ 200 ∧ t1.length ≤ 200 ∧ k1.length ≤ 200 ∧ u1.length ≤ 200 ∧ l2.length ≤ 200 ∧ t2.length ≤ 200 ∧ k2.length ≤ 200 ∧ u2.length ≤ 200 ∧ l3.length ≤ 200 ∧ t3.length ≤ 200 ∧ k3.length ≤ 200 ∧ u3.length ≤ 200, .t [.agg (dz (decide (meetD (rq s0 l0 t0, rq z0 k0 u0) (rq s1 l1 t1, rq z1 k1 u1) (rq s2 l2 t2, rq z2 k2 u2) (rq s3 l3 t3, rq z3 k3 u3) = 0)) (meetQ (rq s0 l0 t0, rq z0 k0 u0) (rq s1 l1 t1, rq z1 k1 u1) (rq s2 l2 t2, rq z2 k2 u2) (rq s3 l3 t3, rq z3 k3 u3))), .val (.int .i64 (cond (decide (meetD (rq s0 l0 t0, rq z0 k0 u0) (rq s1 l1 t1, rq z1 k1 u1) (rq s2 l2 t2, rq z2 k2 u2) (rq s3 l3 t3, rq z3 k3 u3) = 0)) 10 0))])
  | _ => none
def sFoot : List RV → Option (Prop × Res)
  | [.agg [.b (.val (.bool s0)), .b (.nat l0), .b (.nat t0), .b (.val (.bool z0)), .b (.nat k0), .b (.nat u0)], .agg [.b (.val (.bool s1)), .b (.nat l1), .b (.nat t1), .b (.val (.bool z1)), .b (.nat k1), .b (.nat u1)], .agg [.b (.val (.bool s2)), .b (.nat l2), .b (.nat t2), .b (.val (.bool z2)), .b (.nat k2), .b (.nat u2)]] => some (l0.length ≤ 200 ∧ t0.length ≤ 200 ∧ k0.length ≤ 200 ∧ u0.length ≤ 200 ∧ l1.length ≤ 200 ∧ t1.length ≤ 200 ∧ k1.length ≤ 200 ∧ u1.length ≤ 200 ∧ l2.length ≤ 200 ∧ t2.length ≤ 200 ∧ k2.length ≤ 200 ∧ u2.length ≤ 200, .t [.agg (dz (decide (footD (rq s1 l1 t1, rq z1 k1 u1) (rq s2 l2 t2, rq z2 k2 u2) = 0)) (footQ (rq s0 l0 t0, rq z0 k0 u0) (rq s1 l1 t1, rq z1 k1 u1) (rq s2 l2 t2, rq z2 k2 u2))), .val (.int .i64 (cond (decide (footD (rq s1 l1 t1, rq z1 k1 u1) (rq s2 l2 t2, rq z2 k2 u2) = 0)) 10 0))])
  | _ => none
def sMirror : List RV → Option (Prop × Res)
  | [.agg [.b (.val (.bool s0)), .b (.nat l0), .b (.nat t0), .b (.val (.bool z0)), .b (.nat k0), .b (.nat u0)], .agg [.b (.val (.bool s1)), .b (.nat l1), .b (.nat t1), .b (.val (.bool z1)), .b (.nat k1), .b (.nat u1)], .agg [.b (.val (.bool s2)), .b (.nat l2), .b (.nat t2), .b (.val (.bool z2)), .b (.nat k2), .b (.nat u2)]] => some (l0.length ≤ 200 ∧ t0.length ≤ 200 ∧ k0.length ≤ 200 ∧ u0.length ≤ 200 ∧ l1.length ≤ 200 ∧ t1.length ≤ 200 ∧ k1.length ≤ 200 ∧ u1.length ≤ 200 ∧ l2.length ≤ 200 ∧ t2.length ≤ 200 ∧ k2.length ≤ 200 ∧ u2.length ≤ 200, .t [.agg (dz (decide (footD (rq s1 l1 t1, rq z1 k1 u1) (rq s2 l2 t2, rq z2 k2 u2) = 0)) (mirQ (rq s0 l0 t0, rq z0 k0 u0) (rq s1 l1 t1, rq z1 k1 u1) (rq s2 l2 t2, rq z2 k2 u2))), .val (.int .i64 (cond (decide (footD (rq s1 l1 t1, rq z1 k1 u1) (rq s2 l2 t2, rq z2 k2 u2) = 0)) 10 0))])
  | _ => none
set_option maxHeartbeats 2000000 in
theorem ok_Meet : Ok1 6 sMeet := by
  refine ok_of TPtB_ok Tryz.func6 rfl (by kernel_rfl) ?_
  intro xs pre res h hp hlim
  unfold sMeet at h
  split at h
  · rename_i s0 l0 t0 z0 k0 u0 s1 l1 t1 z1 k1 u1 s2 l2 t2 z2 k2 u2 s3 l3 t3 z3 k3 u3
    cases h
    obtain ⟨hl0, ht0, hk0, hu0, hl1, ht1, hk1, hu1, hl2, ht2, hk2, hu2, hl3, ht3, hk3, hu3⟩ := hp
    have Ll0 : Lim l0 := hlim.1.2.1
    have Lt0 : Lim t0 := hlim.1.2.2.1
    have iX0 : Szc (rq s0 l0 t0) 201 := ⟨Sz.rq Ll0 Lt0 hl0 ht0⟩
    have Lk0 : Lim k0 := hlim.1.2.2.2.2.1
    have Lu0 : Lim u0 := hlim.1.2.2.2.2.2.1
    have iY0 : Szc (rq z0 k0 u0) 201 := ⟨Sz.rq Lk0 Lu0 hk0 hu0⟩
    have Ll1 : Lim l1 := hlim.2.1.2.1
    have Lt1 : Lim t1 := hlim.2.1.2.2.1
    have iX1 : Szc (rq s1 l1 t1) 201 := ⟨Sz.rq Ll1 Lt1 hl1 ht1⟩
    have Lk1 : Lim k1 := hlim.2.1.2.2.2.2.1
    have Lu1 : Lim u1 := hlim.2.1.2.2.2.2.2.1
    have iY1 : Szc (rq z1 k1 u1) 201 := ⟨Sz.rq Lk1 Lu1 hk1 hu1⟩
    have Ll2 : Lim l2 := hlim.2.2.1.2.1
    have Lt2 : Lim t2 := hlim.2.2.1.2.2.1
    have iX2 : Szc (rq s2 l2 t2) 201 := ⟨Sz.rq Ll2 Lt2 hl2 ht2⟩
    have Lk2 : Lim k2 := hlim.2.2.1.2.2.2.2.1
    have Lu2 : Lim u2 := hlim.2.2.1.2.2.2.2.2.1
    have iY2 : Szc (rq z2 k2 u2) 201 := ⟨Sz.rq Lk2 Lu2 hk2 hu2⟩
    have Ll3 : Lim l3 := hlim.2.2.2.1.2.1
    have Lt3 : Lim t3 := hlim.2.2.2.1.2.2.1
    have iX3 : Szc (rq s3 l3 t3) 201 := ⟨Sz.rq Ll3 Lt3 hl3 ht3⟩
    have Lk3 : Lim k3 := hlim.2.2.2.1.2.2.2.2.1
    have Lu3 : Lim u3 := hlim.2.2.2.1.2.2.2.2.2.1
    have iY3 : Szc (rq z3 k3 u3) 201 := ⟨Sz.rq Lk3 Lu3 hk3 hu3⟩
    refine And.intro (Nat.le_of_ble_eq_true rfl) ?_
    repeat first | refine And.intro rfl ?_ | refine Or.inl (And.intro rfl ?_) | refine Or.inr (And.intro rfl ?_) | refine And.intro (fun (_ : true = true) => ?_) (fun (h : true = false) => Bool.noConfusion h) | refine And.intro (fun (h : false = true) => Bool.noConfusion h) (fun (_ : false = false) => ?_)
    refine And.intro ?pre ?_
    case pre =>
      repeat' refine And.intro ?_ ?_
      all_goals first | exact lenN_of (by decide) | exact lenD_of (by decide) | assumption | exact trivial | exact Nat.zero_le _ | omega
    have iwA := (inferInstance : Szc (rq s3 l3 t3 - rq s2 l2 t2) _)
    have iwB := (inferInstance : Szc (rq z3 k3 u3 - rq z2 k2 u2) _)
    generalize ewA : rq s3 l3 t3 - rq s2 l2 t2 = wA
    generalize ewB : rq z3 k3 u3 - rq z2 k2 u2 = wB
    rw [ewA] at iwA
    rw [ewB] at iwB
    have qwA := rq_cq wA
    have qwB := rq_cq wB
    repeat first | refine And.intro rfl ?_ | refine And.intro True.intro ?_ | refine Or.inl (And.intro rfl ?_) | refine Or.inr (And.intro rfl ?_) | refine And.intro (fun (_ : true = true) => ?_) (fun (h : true = false) => Bool.noConfusion h) | refine And.intro (fun (h : false = true) => Bool.noConfusion h) (fun (_ : false = false) => ?_)
    refine And.intro ?pre ?_
    case pre =>
      repeat' refine And.intro ?_ ?_
      all_goals first | exact lenN_of (by decide) | exact lenD_of (by decide) | assumption | exact trivial | exact Nat.zero_le _ | omega
    have ivA := (inferInstance : Szc (rq s2 l2 t2 - rq s0 l0 t0) _)
    have ivB := (inferInstance : Szc (rq z2 k2 u2 - rq z0 k0 u0) _)
    generalize evA : rq s2 l2 t2 - rq s0 l0 t0 = vA
    generalize evB : rq z2 k2 u2 - rq z0 k0 u0 = vB
    rw [evA] at ivA
    rw [evB] at ivB
    have qvA := rq_cq vA
    have qvB := rq_cq vB
    repeat first | refine And.intro rfl ?_ | refine And.intro True.intro ?_ | refine Or.inl (And.intro rfl ?_) | refine Or.inr (And.intro rfl ?_) | refine And.intro (fun (_ : true = true) => ?_) (fun (h : true = false) => Bool.noConfusion h) | refine And.intro (fun (h : false = true) => Bool.noConfusion h) (fun (_ : false = false) => ?_)
    refine And.intro ?pre ?_
    case pre =>
      repeat' refine And.intro ?_ ?_
      all_goals first | exact lenN_of (by decide) | exact lenD_of (by decide) | assumption | exact trivial | exact Nat.zero_le _ | omega
    rw [qvA, qwB, qvB, qwA]
    have inn := (inferInstance : Szc (vA * wB - vB * wA) _)
    generalize enn : vA * wB - vB * wA = nn
    rw [enn] at inn
    have qnn := rq_cq nn
    repeat first | refine And.intro rfl ?_ | refine And.intro True.intro ?_ | refine Or.inl (And.intro rfl ?_) | refine Or.inr (And.intro rfl ?_) | refine And.intro (fun (_ : true = true) => ?_) (fun (h : true = false) => Bool.noConfusion h) | refine And.intro (fun (h : false = true) => Bool.noConfusion h) (fun (_ : false = false) => ?_)
    refine And.intro ?pre ?_
    case pre =>
      repeat' refine And.intro ?_ ?_
      all_goals first | exact lenN_of (by decide) | exact lenD_of (by decide) | assumption | exact trivial | exact Nat.zero_le _ | omega
    have ibA := (inferInstance : Szc (rq s1 l1 t1 - rq s0 l0 t0) _)
    have ibB := (inferInstance : Szc (rq z1 k1 u1 - rq z0 k0 u0) _)
    generalize ebA : rq s1 l1 t1 - rq s0 l0 t0 = bA
    generalize ebB : rq z1 k1 u1 - rq z0 k0 u0 = bB
    rw [ebA] at ibA
    rw [ebB] at ibB
    have qbA := rq_cq bA
    have qbB := rq_cq bB
    repeat first | refine And.intro rfl ?_ | refine And.intro True.intro ?_ | refine Or.inl (And.intro rfl ?_) | refine Or.inr (And.intro rfl ?_) | refine And.intro (fun (_ : true = true) => ?_) (fun (h : true = false) => Bool.noConfusion h) | refine And.intro (fun (h : false = true) => Bool.noConfusion h) (fun (_ : false = false) => ?_)
    refine And.intro ?pre ?_
    case pre =>
      repeat' refine And.intro ?_ ?_
      all_goals first | exact lenN_of (by decide) | exact lenD_of (by decide) | assumption | exact trivial | exact Nat.zero_le _ | omega
    rw [qbA, qwB, qbB, qwA]
    have idd := (inferInstance : Szc (bA * wB - bB * wA) _)
    generalize edd : bA * wB - bB * wA = dd
    rw [edd] at idd
    have qdd := rq_cq dd
    repeat first | refine And.intro rfl ?_ | refine And.intro True.intro ?_ | refine Or.inl (And.intro rfl ?_) | refine Or.inr (And.intro rfl ?_) | refine And.intro (fun (_ : true = true) => ?_) (fun (h : true = false) => Bool.noConfusion h) | refine And.intro (fun (h : false = true) => Bool.noConfusion h) (fun (_ : false = false) => ?_)
    have hD : meetD (rq s0 l0 t0, rq z0 k0 u0) (rq s1 l1 t1, rq z1 k1 u1) (rq s2 l2 t2, rq z2 k2 u2) (rq s3 l3 t3, rq z3 k3 u3) = dd := by
      show (rq s1 l1 t1 - rq s0 l0 t0) * (rq z3 k3 u3 - rq z2 k2 u2) - (rq z1 k1 u1 - rq z0 k0 u0) * (rq s3 l3 t3 - rq s2 l2 t2) = dd
      rw [ebA, ewB, ebB, ewA, edd]
    have hQ : meetQ (rq s0 l0 t0, rq z0 k0 u0) (rq s1 l1 t1, rq z1 k1 u1) (rq s2 l2 t2, rq z2 k2 u2) (rq s3 l3 t3, rq z3 k3 u3) = onP (rq s0 l0 t0, rq z0 k0 u0) (rq s1 l1 t1, rq z1 k1 u1) (nn / dd) := by
      unfold meetQ
      rw [hD]
      show onP _ _ (((rq s2 l2 t2 - rq s0 l0 t0) * (rq z3 k3 u3 - rq z2 k2 u2) - (rq z2 k2 u2 - rq z0 k0 u0) * (rq s3 l3 t3 - rq s2 l2 t2)) / dd) = _
      rw [evA, ewB, evB, ewA, enn]
    
    refine And.intro ?pre ?_
    case pre =>
      repeat' refine And.intro ?_ ?_
      all_goals first | exact lenN_of (by decide) | exact lenD_of (by decide) | assumption | exact trivial | exact Nat.zero_le _ | omega
    rw [qnn, qdd]
    have itt := (inferInstance : Szc (nn / dd) _)
    generalize ett : nn / dd = tt
    rw [ett] at itt
    generalize ez : decide (dd = 0) = z
    repeat first | refine And.intro rfl ?_ | refine And.intro True.intro ?_ | refine Or.inl (And.intro rfl ?_) | refine Or.inr (And.intro rfl ?_) | refine And.intro (fun (_ : true = true) => ?_) (fun (h : true = false) => Bool.noConfusion h) | refine And.intro (fun (h : false = true) => Bool.noConfusion h) (fun (_ : false = false) => ?_)
    cases z with
    | true =>
      refine And.intro (fun _ => ?_) (fun hc => Bool.noConfusion hc)
      repeat first | refine And.intro rfl ?_ | refine And.intro True.intro ?_ | refine Or.inl (And.intro rfl ?_) | refine Or.inr (And.intro rfl ?_) | refine And.intro (fun (_ : true = true) => ?_) (fun (h : true = false) => Bool.noConfusion h) | refine And.intro (fun (h : false = true) => Bool.noConfusion h) (fun (_ : false = false) => ?_)
      rw [hD, ez]
      rfl
    | false =>
      refine And.intro (fun hc => Bool.noConfusion hc) (fun _ => ?_)
      repeat first | refine And.intro rfl ?_ | refine And.intro True.intro ?_ | refine Or.inl (And.intro rfl ?_) | refine Or.inr (And.intro rfl ?_) | refine And.intro (fun (_ : true = true) => ?_) (fun (h : true = false) => Bool.noConfusion h) | refine And.intro (fun (h : false = true) => Bool.noConfusion h) (fun (_ : false = false) => ?_)
      refine And.intro (show l0.length ≤ 4000 ∧ t0.length ≤ 4000 ∧ k0.length ≤ 4000 ∧ u0.length ≤ 4000 ∧ l1.length ≤ 4000 ∧ t1.length ≤ 4000 ∧ k1.length ≤ 4000 ∧ u1.length ≤ 4000 ∧ (dg tt.num.natAbs).length ≤ 4000 ∧ (dg tt.den).length ≤ 4000 from ⟨by omega, by omega, by omega, by omega, by omega, by omega, by omega, by omega, itt.sz.lenN (by decide), itt.sz.lenD (by decide)⟩) ?_
      rw [show rq (bif false then false else decide (tt.num < 0)) (bif false then [] else dg tt.num.natAbs) (bif false then [] else dg tt.den) = tt from rq_cq tt]
      repeat first | refine And.intro rfl ?_ | refine And.intro True.intro ?_ | refine Or.inl (And.intro rfl ?_) | refine Or.inr (And.intro rfl ?_) | refine And.intro (fun (_ : true = true) => ?_) (fun (h : true = false) => Bool.noConfusion h) | refine And.intro (fun (h : false = true) => Bool.noConfusion h) (fun (_ : false = false) => ?_)
      rw [hD, hQ, ez, ett]
      rfl
  · cases h
set_option maxHeartbeats 2000000 in
theorem ok_Foot : Ok1 8 sFoot := by
  refine ok_of TPtB_ok Tryz.func8 rfl (by kernel_rfl) ?_
  intro xs pre res h hp hlim
  unfold sFoot at h
  split at h
  · rename_i s0 l0 t0 z0 k0 u0 s1 l1 t1 z1 k1 u1 s2 l2 t2 z2 k2 u2
    cases h
    obtain ⟨hl0, ht0, hk0, hu0, hl1, ht1, hk1, hu1, hl2, ht2, hk2, hu2⟩ := hp
    have Ll0 : Lim l0 := hlim.1.2.1
    have Lt0 : Lim t0 := hlim.1.2.2.1
    have iX0 : Szc (rq s0 l0 t0) 201 := ⟨Sz.rq Ll0 Lt0 hl0 ht0⟩
    have Lk0 : Lim k0 := hlim.1.2.2.2.2.1
    have Lu0 : Lim u0 := hlim.1.2.2.2.2.2.1
    have iY0 : Szc (rq z0 k0 u0) 201 := ⟨Sz.rq Lk0 Lu0 hk0 hu0⟩
    have Ll1 : Lim l1 := hlim.2.1.2.1
    have Lt1 : Lim t1 := hlim.2.1.2.2.1
    have iX1 : Szc (rq s1 l1 t1) 201 := ⟨Sz.rq Ll1 Lt1 hl1 ht1⟩
    have Lk1 : Lim k1 := hlim.2.1.2.2.2.2.1
    have Lu1 : Lim u1 := hlim.2.1.2.2.2.2.2.1
    have iY1 : Szc (rq z1 k1 u1) 201 := ⟨Sz.rq Lk1 Lu1 hk1 hu1⟩
    have Ll2 : Lim l2 := hlim.2.2.1.2.1
    have Lt2 : Lim t2 := hlim.2.2.1.2.2.1
    have iX2 : Szc (rq s2 l2 t2) 201 := ⟨Sz.rq Ll2 Lt2 hl2 ht2⟩
    have Lk2 : Lim k2 := hlim.2.2.1.2.2.2.2.1
    have Lu2 : Lim u2 := hlim.2.2.1.2.2.2.2.2.1
    have iY2 : Szc (rq z2 k2 u2) 201 := ⟨Sz.rq Lk2 Lu2 hk2 hu2⟩
    refine And.intro (Nat.le_of_ble_eq_true rfl) ?_
    repeat first | refine And.intro rfl ?_ | refine Or.inl (And.intro rfl ?_) | refine Or.inr (And.intro rfl ?_) | refine And.intro (fun (_ : true = true) => ?_) (fun (h : true = false) => Bool.noConfusion h) | refine And.intro (fun (h : false = true) => Bool.noConfusion h) (fun (_ : false = false) => ?_)
    refine And.intro ?pre ?_
    case pre =>
      repeat' refine And.intro ?_ ?_
      all_goals first | exact lenN_of (by decide) | exact lenD_of (by decide) | assumption | exact trivial | exact Nat.zero_le _ | omega
    have iwA := (inferInstance : Szc (rq s2 l2 t2 - rq s1 l1 t1) _)
    have iwB := (inferInstance : Szc (rq z2 k2 u2 - rq z1 k1 u1) _)
    generalize ewA : rq s2 l2 t2 - rq s1 l1 t1 = wA
    generalize ewB : rq z2 k2 u2 - rq z1 k1 u1 = wB
    rw [ewA] at iwA
    rw [ewB] at iwB
    have qwA := rq_cq wA
    have qwB := rq_cq wB
    repeat first | refine And.intro rfl ?_ | refine And.intro True.intro ?_ | refine Or.inl (And.intro rfl ?_) | refine Or.inr (And.intro rfl ?_) | refine And.intro (fun (_ : true = true) => ?_) (fun (h : true = false) => Bool.noConfusion h) | refine And.intro (fun (h : false = true) => Bool.noConfusion h) (fun (_ : false = false) => ?_)
    refine And.intro ?pre ?_
    case pre =>
      repeat' refine And.intro ?_ ?_
      all_goals first | exact lenN_of (by decide) | exact lenD_of (by decide) | assumption | exact trivial | exact Nat.zero_le _ | omega
    have ivA := (inferInstance : Szc (rq s0 l0 t0 - rq s1 l1 t1) _)
    have ivB := (inferInstance : Szc (rq z0 k0 u0 - rq z1 k1 u1) _)
    generalize evA : rq s0 l0 t0 - rq s1 l1 t1 = vA
    generalize evB : rq z0 k0 u0 - rq z1 k1 u1 = vB
    rw [evA] at ivA
    rw [evB] at ivB
    have qvA := rq_cq vA
    have qvB := rq_cq vB
    repeat first | refine And.intro rfl ?_ | refine And.intro True.intro ?_ | refine Or.inl (And.intro rfl ?_) | refine Or.inr (And.intro rfl ?_) | refine And.intro (fun (_ : true = true) => ?_) (fun (h : true = false) => Bool.noConfusion h) | refine And.intro (fun (h : false = true) => Bool.noConfusion h) (fun (_ : false = false) => ?_)
    refine And.intro ?pre ?_
    case pre =>
      repeat' refine And.intro ?_ ?_
      all_goals first | exact lenN_of (by decide) | exact lenD_of (by decide) | assumption | exact trivial | exact Nat.zero_le _ | omega
    rw [qvA, qwA, qvB, qwB]
    have inn := (inferInstance : Szc (vA * wA + vB * wB) _)
    generalize enn : vA * wA + vB * wB = nn
    rw [enn] at inn
    have qnn := rq_cq nn
    repeat first | refine And.intro rfl ?_ | refine And.intro True.intro ?_ | refine Or.inl (And.intro rfl ?_) | refine Or.inr (And.intro rfl ?_) | refine And.intro (fun (_ : true = true) => ?_) (fun (h : true = false) => Bool.noConfusion h) | refine And.intro (fun (h : false = true) => Bool.noConfusion h) (fun (_ : false = false) => ?_)
    refine And.intro ?pre ?_
    case pre =>
      repeat' refine And.intro ?_ ?_
      all_goals first | exact lenN_of (by decide) | exact lenD_of (by decide) | assumption | exact trivial | exact Nat.zero_le _ | omega
    rw [qwA, qwB]
    have idd := (inferInstance : Szc (wA * wA + wB * wB) _)
    generalize edd : wA * wA + wB * wB = dd
    rw [edd] at idd
    have qdd := rq_cq dd
    repeat first | refine And.intro rfl ?_ | refine And.intro True.intro ?_ | refine Or.inl (And.intro rfl ?_) | refine Or.inr (And.intro rfl ?_) | refine And.intro (fun (_ : true = true) => ?_) (fun (h : true = false) => Bool.noConfusion h) | refine And.intro (fun (h : false = true) => Bool.noConfusion h) (fun (_ : false = false) => ?_)
    have hD : footD (rq s1 l1 t1, rq z1 k1 u1) (rq s2 l2 t2, rq z2 k2 u2) = dd := by
      show (rq s2 l2 t2 - rq s1 l1 t1) * (rq s2 l2 t2 - rq s1 l1 t1) + (rq z2 k2 u2 - rq z1 k1 u1) * (rq z2 k2 u2 - rq z1 k1 u1) = dd
      rw [ewA, ewB, edd]
    have hQ : footQ (rq s0 l0 t0, rq z0 k0 u0) (rq s1 l1 t1, rq z1 k1 u1) (rq s2 l2 t2, rq z2 k2 u2) = onP (rq s1 l1 t1, rq z1 k1 u1) (rq s2 l2 t2, rq z2 k2 u2) (nn / dd) := by
      unfold footQ
      rw [hD]
      show onP _ _ (((rq s0 l0 t0 - rq s1 l1 t1) * (rq s2 l2 t2 - rq s1 l1 t1) + (rq z0 k0 u0 - rq z1 k1 u1) * (rq z2 k2 u2 - rq z1 k1 u1)) / dd) = _
      rw [evA, ewA, evB, ewB, enn]
    refine And.intro ?pre ?_
    case pre =>
      repeat' refine And.intro ?_ ?_
      all_goals first | exact lenN_of (by decide) | exact lenD_of (by decide) | assumption | exact trivial | exact Nat.zero_le _ | omega
    rw [qnn, qdd]
    have itt := (inferInstance : Szc (nn / dd) _)
    generalize ett : nn / dd = tt
    rw [ett] at itt
    generalize ez : decide (dd = 0) = z
    repeat first | refine And.intro rfl ?_ | refine And.intro True.intro ?_ | refine Or.inl (And.intro rfl ?_) | refine Or.inr (And.intro rfl ?_) | refine And.intro (fun (_ : true = true) => ?_) (fun (h : true = false) => Bool.noConfusion h) | refine And.intro (fun (h : false = true) => Bool.noConfusion h) (fun (_ : false = false) => ?_)
    cases z with
    | true =>
      refine And.intro (fun _ => ?_) (fun hc => Bool.noConfusion hc)
      repeat first | refine And.intro rfl ?_ | refine And.intro True.intro ?_ | refine Or.inl (And.intro rfl ?_) | refine Or.inr (And.intro rfl ?_) | refine And.intro (fun (_ : true = true) => ?_) (fun (h : true = false) => Bool.noConfusion h) | refine And.intro (fun (h : false = true) => Bool.noConfusion h) (fun (_ : false = false) => ?_)
      rw [hD, ez]
      rfl
    | false =>
      refine And.intro (fun hc => Bool.noConfusion hc) (fun _ => ?_)
      repeat first | refine And.intro rfl ?_ | refine And.intro True.intro ?_ | refine Or.inl (And.intro rfl ?_) | refine Or.inr (And.intro rfl ?_) | refine And.intro (fun (_ : true = true) => ?_) (fun (h : true = false) => Bool.noConfusion h) | refine And.intro (fun (h : false = true) => Bool.noConfusion h) (fun (_ : false = false) => ?_)
      refine And.intro (show l1.length ≤ 4000 ∧ t1.length ≤ 4000 ∧ k1.length ≤ 4000 ∧ u1.length ≤ 4000 ∧ l2.length ≤ 4000 ∧ t2.length ≤ 4000 ∧ k2.length ≤ 4000 ∧ u2.length ≤ 4000 ∧ (dg tt.num.natAbs).length ≤ 4000 ∧ (dg tt.den).length ≤ 4000 from ⟨by omega, by omega, by omega, by omega, by omega, by omega, by omega, by omega, itt.sz.lenN (by decide), itt.sz.lenD (by decide)⟩) ?_
      rw [show rq (bif false then false else decide (tt.num < 0)) (bif false then [] else dg tt.num.natAbs) (bif false then [] else dg tt.den) = tt from rq_cq tt]
      repeat first | refine And.intro rfl ?_ | refine And.intro True.intro ?_ | refine Or.inl (And.intro rfl ?_) | refine Or.inr (And.intro rfl ?_) | refine And.intro (fun (_ : true = true) => ?_) (fun (h : true = false) => Bool.noConfusion h) | refine And.intro (fun (h : false = true) => Bool.noConfusion h) (fun (_ : false = false) => ?_)
      rw [hD, hQ, ez, ett]
      rfl
  · cases h

end Go.Gm
