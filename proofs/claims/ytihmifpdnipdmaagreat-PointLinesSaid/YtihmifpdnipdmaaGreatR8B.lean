/-
  The points of the reference, part B: Div, Side, Meet, Foot, Mirror. Plain theorems; no condition.
-/
import Derived.Test.YtihmifpdnipdmaaGreatR8
import Derived.Test.YtihmifpdnipdmaaGreatAw2
set_option linter.all false
namespace Go.Gm
open Go.Proofs


theorem resQT {q q' : Rat} (h : q = q') : Res.t [CQ q, .val (.bool true)] = Res.t [CQ q', .val (.bool true)] := by rw [h]

set_option maxHeartbeats 1000000 in
theorem ok_kDiv : Ok1 25 sRatDiv := by
  refine ok_of TRK3_ok Tryz.func25 rfl (by kernel_rfl) ?_
  intro xs pre res h hp hlim
  unfold sRatDiv at h
  split at h
  · rename_i s l t s' l' t'
    cases h
    have hl : Lim l := hlim.1.2.1
    have ht : Lim t := hlim.1.2.2.1
    have hl' : Lim l' := hlim.2.1.2.1
    have ht' : Lim t' := hlim.2.1.2.2.1
    obtain ⟨p1, p2, p3, p4⟩ := hp
    have za : Sz 40000 (rq s l t) := szq0 hl ht p1 p2 (by decide)
    have zb : Sz 40000 (rq s' l' t') := szq0 hl' ht' p3 p4 (by decide)
    refine And.intro (Nat.le_of_ble_eq_true rfl) ?_
    repeat first | refine And.intro rfl ?_ | refine Or.inl (And.intro rfl ?_) | refine Or.inr (And.intro rfl ?_) | refine And.intro (fun (_ : true = true) => ?_) (fun (h : true = false) => Bool.noConfusion h) | refine And.intro (fun (h : false = true) => Bool.noConfusion h) (fun (_ : false = false) => ?_)
    refine And.intro (show l'.length ≤ 1000000 ∧ t'.length ≤ 1000000 by omega) ?_
    repeat first | refine And.intro rfl ?_ | refine Or.inl (And.intro rfl ?_) | refine Or.inr (And.intro rfl ?_) | refine And.intro (fun (_ : true = true) => ?_) (fun (h : true = false) => Bool.noConfusion h) | refine And.intro (fun (h : false = true) => Bool.noConfusion h) (fun (_ : false = false) => ?_)
    refine And.intro (fun hc => ?_) (fun hc => ?_)
    · have h0 : decide (rq s' l' t' = 0) = true := hc
      repeat first | refine And.intro rfl ?_ | refine Or.inl (And.intro rfl ?_) | refine Or.inr (And.intro rfl ?_) | refine And.intro (fun (_ : true = true) => ?_) (fun (h : true = false) => Bool.noConfusion h) | refine And.intro (fun (h : false = true) => Bool.noConfusion h) (fun (_ : false = false) => ?_)
      rw [h0]
      rfl
    · have h0 : decide (rq s' l' t' = 0) = false := hc
      have n0 := of_decide_eq_false h0
      rw [h0]
      repeat first | refine And.intro rfl ?_ | refine Or.inl (And.intro rfl ?_) | refine Or.inr (And.intro rfl ?_) | refine And.intro (fun (_ : true = true) => ?_) (fun (h : true = false) => Bool.noConfusion h) | refine And.intro (fun (h : false = true) => Bool.noConfusion h) (fun (_ : false = false) => ?_)
      refine And.intro (show l.length ≤ 80000 ∧ t.length ≤ 80000 ∧ DivFit (nv t) from ⟨by omega, by omega, trivial⟩) ?_
      generalize rq s l t = a at za
      repeat first | refine And.intro rfl ?_ | refine Or.inl (And.intro rfl ?_) | refine Or.inr (And.intro rfl ?_) | refine And.intro (fun (_ : true = true) => ?_) (fun (h : true = false) => Bool.noConfusion h) | refine And.intro (fun (h : false = true) => Bool.noConfusion h) (fun (_ : false = false) => ?_)
      refine And.intro (show l'.length ≤ 80000 ∧ t'.length ≤ 80000 ∧ DivFit (nv t') from ⟨by omega, by omega, trivial⟩) ?_
      generalize rq s' l' t' = b at zb n0
      have la : (dg a.num.natAbs).length ≤ 40000 := za.lenN (by decide)
      have da : (dg a.den).length ≤ 40000 := za.lenD (by decide)
      have lb : (dg b.num.natAbs).length ≤ 40000 := zb.lenN (by decide)
      have db : (dg b.den).length ≤ 40000 := zb.lenD (by decide)
      have hb : 0 < b.num.natAbs := by
        rcases Nat.eq_zero_or_pos b.num.natAbs with h | h
        · exact absurd (Rat.num_eq_zero.1 (Int.natAbs_eq_zero.1 h)) n0
        · exact h
      repeat first | refine And.intro rfl ?_ | refine Or.inl (And.intro rfl ?_) | refine Or.inr (And.intro rfl ?_) | refine And.intro (fun (_ : true = true) => ?_) (fun (h : true = false) => Bool.noConfusion h) | refine And.intro (fun (h : false = true) => Bool.noConfusion h) (fun (_ : false = false) => ?_)
      refine And.intro (show (dg a.num.natAbs).length ≤ 100000 ∧ (dg b.den).length ≤ 100000 by omega) ?_
      rw [nv_dg, nv_dg]
      repeat first | refine And.intro rfl ?_ | refine Or.inl (And.intro rfl ?_) | refine Or.inr (And.intro rfl ?_) | refine And.intro (fun (_ : true = true) => ?_) (fun (h : true = false) => Bool.noConfusion h) | refine And.intro (fun (h : false = true) => Bool.noConfusion h) (fun (_ : false = false) => ?_)
      refine And.intro (show (dg a.den).length ≤ 100000 ∧ (dg b.num.natAbs).length ≤ 100000 by omega) ?_
      rw [nv_dg, nv_dg]
      repeat first | refine And.intro rfl ?_ | refine Or.inl (And.intro rfl ?_) | refine Or.inr (And.intro rfl ?_) | refine And.intro (fun (_ : true = true) => ?_) (fun (h : true = false) => Bool.noConfusion h) | refine And.intro (fun (h : false = true) => Bool.noConfusion h) (fun (_ : false = false) => ?_)
      refine And.intro (show (dg (a.num.natAbs * b.den)).length ≤ 90000 ∧ (dg (a.den * b.num.natAbs)).length ≤ 90000 ∧ 0 < nv (dg (a.den * b.num.natAbs)) from ⟨Nat.le_trans (len_mul za.1 zb.2) (by decide), Nat.le_trans (len_mul za.2 zb.1) (by decide), by rw [nv_dg]; exact Nat.mul_pos a.den_pos hb⟩) ?_
      repeat first | refine And.intro rfl ?_ | refine Or.inl (And.intro rfl ?_) | refine Or.inr (And.intro rfl ?_) | refine And.intro (fun (_ : true = true) => ?_) (fun (h : true = false) => Bool.noConfusion h) | refine And.intro (fun (h : false = true) => Bool.noConfusion h) (fun (_ : false = false) => ?_)
      have e : rq (!(decide (a.num < 0) == decide (b.num < 0))) (dg (a.num.natAbs * b.den)) (dg (a.den * b.num.natAbs)) = a / b := by
        unfold rq
        rw [nv_dg, nv_dg, mk_div hb a.den_pos b.den_pos, sg_self, sg_self, Rat.mkRat_self, Rat.mkRat_self]
      rw [← e]
      rfl
  · cases h

def TR8B : Table := [(28, sPtOn), (25, sRatDiv), (35, sWholeR)] ++ TQt1
theorem TR8B_ok : TabOk TR8B := TabOk.append (TabOk.cons ok_r8On (TabOk.cons ok_kDiv (TabOk.cons ok_whole8 TabOk.nil))) TQt1_ok
set_option maxHeartbeats 1000000 in
theorem ok_r8Side : Ok1 14 sPtSide := by
  refine ok_of TR8B_ok Tryz.func14 rfl (by kernel_rfl) ?_
  intro xs pre res h hp hlim
  unfold sPtSide at h
  split at h
  · rename_i s0 l0 t0 z0 k0 u0 s1 l1 t1 z1 k1 u1 s2 l2 t2 z2 k2 u2
    cases h
    obtain ⟨hl0, ht0, hk0, hu0, hl1, ht1, hk1, hu1, hl2, ht2, hk2, hu2⟩ := hp
    have Ll0 : Lim l0 := hlim.1.2.1
    have Lt0 : Lim t0 := hlim.1.2.2.1
    have iX0 : Szc (rq s0 l0 t0) 4001 := ⟨Sz.rq Ll0 Lt0 hl0 ht0⟩
    have Lk0 : Lim k0 := hlim.1.2.2.2.2.1
    have Lu0 : Lim u0 := hlim.1.2.2.2.2.2.1
    have iY0 : Szc (rq z0 k0 u0) 4001 := ⟨Sz.rq Lk0 Lu0 hk0 hu0⟩
    have Ll1 : Lim l1 := hlim.2.1.2.1
    have Lt1 : Lim t1 := hlim.2.1.2.2.1
    have iX1 : Szc (rq s1 l1 t1) 4001 := ⟨Sz.rq Ll1 Lt1 hl1 ht1⟩
    have Lk1 : Lim k1 := hlim.2.1.2.2.2.2.1
    have Lu1 : Lim u1 := hlim.2.1.2.2.2.2.2.1
    have iY1 : Szc (rq z1 k1 u1) 4001 := ⟨Sz.rq Lk1 Lu1 hk1 hu1⟩
    have Ll2 : Lim l2 := hlim.2.2.1.2.1
    have Lt2 : Lim t2 := hlim.2.2.1.2.2.1
    have iX2 : Szc (rq s2 l2 t2) 4001 := ⟨Sz.rq Ll2 Lt2 hl2 ht2⟩
    have Lk2 : Lim k2 := hlim.2.2.1.2.2.2.2.1
    have Lu2 : Lim u2 := hlim.2.2.1.2.2.2.2.2.1
    have iY2 : Szc (rq z2 k2 u2) 4001 := ⟨Sz.rq Lk2 Lu2 hk2 hu2⟩
    refine And.intro (Nat.le_of_ble_eq_true rfl) ?_
    repeat first | refine And.intro rfl ?_ | refine Or.inl (And.intro rfl ?_) | refine Or.inr (And.intro rfl ?_) | refine And.intro (fun (_ : true = true) => ?_) (fun (h : true = false) => Bool.noConfusion h) | refine And.intro (fun (h : false = true) => Bool.noConfusion h) (fun (_ : false = false) => ?_)
    have i0 : Szc (0 : Rat) 1 := szS (by decide +kernel)
    refine And.intro ?pre ?_
    case pre =>
      repeat' refine And.intro ?_ ?_
      all_goals first | exact lenN_of (by decide) | exact lenD_of (by decide) | assumption | exact trivial | exact Nat.zero_le _ | omega
    repeat first | refine And.intro rfl ?_ | refine And.intro True.intro ?_ | refine Or.inl (And.intro rfl ?_) | refine Or.inr (And.intro rfl ?_) | refine And.intro (fun (_ : true = true) => ?_) (fun (h : true = false) => Bool.noConfusion h) | refine And.intro (fun (h : false = true) => Bool.noConfusion h) (fun (_ : false = false) => ?_)
    refine And.intro ?pre ?_
    case pre =>
      repeat' refine And.intro ?_ ?_
      all_goals first | exact lenN_of (by decide) | exact lenD_of (by decide) | assumption | exact trivial | exact Nat.zero_le _ | omega
    repeat first | refine And.intro rfl ?_ | refine And.intro True.intro ?_ | refine Or.inl (And.intro rfl ?_) | refine Or.inr (And.intro rfl ?_) | refine And.intro (fun (_ : true = true) => ?_) (fun (h : true = false) => Bool.noConfusion h) | refine And.intro (fun (h : false = true) => Bool.noConfusion h) (fun (_ : false = false) => ?_)
    refine And.intro ?pre ?_
    case pre =>
      repeat' refine And.intro ?_ ?_
      all_goals first | exact lenN_of (by decide) | exact lenD_of (by decide) | assumption | exact trivial | exact Nat.zero_le _ | omega
    repeat first | refine And.intro rfl ?_ | refine And.intro True.intro ?_ | refine Or.inl (And.intro rfl ?_) | refine Or.inr (And.intro rfl ?_) | refine And.intro (fun (_ : true = true) => ?_) (fun (h : true = false) => Bool.noConfusion h) | refine And.intro (fun (h : false = true) => Bool.noConfusion h) (fun (_ : false = false) => ?_)
    refine And.intro (show InR 0 from ⟨by decide, by decide⟩) ?_
    rw [show (((0 : Int)) : Rat) = 0 from rfl]
    repeat first | refine And.intro rfl ?_ | refine And.intro True.intro ?_ | refine Or.inl (And.intro rfl ?_) | refine Or.inr (And.intro rfl ?_) | refine And.intro (fun (_ : true = true) => ?_) (fun (h : true = false) => Bool.noConfusion h) | refine And.intro (fun (h : false = true) => Bool.noConfusion h) (fun (_ : false = false) => ?_)
    refine And.intro ?pre ?_
    case pre =>
      repeat' refine And.intro ?_ ?_
      all_goals first | exact lenN_of (by decide) | exact lenD_of (by decide) | assumption | exact trivial | exact Nat.zero_le _ | omega
    repeat first | refine And.intro rfl ?_ | refine And.intro True.intro ?_ | refine Or.inl (And.intro rfl ?_) | refine Or.inr (And.intro rfl ?_) | refine And.intro (fun (_ : true = true) => ?_) (fun (h : true = false) => Bool.noConfusion h) | refine And.intro (fun (h : false = true) => Bool.noConfusion h) (fun (_ : false = false) => ?_)
    refine resI ?_
    simp only [rq_cq]
  · cases h
set_option maxHeartbeats 2000000 in
theorem ok_r8Meet : Ok1 7 sMeet := by
  refine ok_of TR8B_ok Tryz.func7 rfl (by kernel_rfl) ?_
  intro xs pre res h hp hlim
  unfold sMeet at h
  split at h
  · rename_i s0 l0 t0 z0 k0 u0 s1 l1 t1 z1 k1 u1 s2 l2 t2 z2 k2 u2 s3 l3 t3 z3 k3 u3
    cases h
    obtain ⟨hl0, ht0, hk0, hu0, hl1, ht1, hk1, hu1, hl2, ht2, hk2, hu2, hl3, ht3, hk3, hu3⟩ := hp
    have Ll0 : Lim l0 := hlim.1.2.1
    have Lt0 : Lim t0 := hlim.1.2.2.1
    have iX0 : Szc (rq s0 l0 t0) 201 := ⟨Sz.rq Ll0 Lt0 hl0 ht0⟩
    have Lk0 : Lim k0 := hlim.1.2.2.2.2.1
    have Lu0 : Lim u0 := hlim.1.2.2.2.2.2.1
    have iY0 : Szc (rq z0 k0 u0) 201 := ⟨Sz.rq Lk0 Lu0 hk0 hu0⟩
    have Ll1 : Lim l1 := hlim.2.1.2.1
    have Lt1 : Lim t1 := hlim.2.1.2.2.1
    have iX1 : Szc (rq s1 l1 t1) 201 := ⟨Sz.rq Ll1 Lt1 hl1 ht1⟩
    have Lk1 : Lim k1 := hlim.2.1.2.2.2.2.1
    have Lu1 : Lim u1 := hlim.2.1.2.2.2.2.2.1
    have iY1 : Szc (rq z1 k1 u1) 201 := ⟨Sz.rq Lk1 Lu1 hk1 hu1⟩
    have Ll2 : Lim l2 := hlim.2.2.1.2.1
    have Lt2 : Lim t2 := hlim.2.2.1.2.2.1
    have iX2 : Szc (rq s2 l2 t2) 201 := ⟨Sz.rq Ll2 Lt2 hl2 ht2⟩
    have Lk2 : Lim k2 := hlim.2.2.1.2.2.2.2.1
    have Lu2 : Lim u2 := hlim.2.2.1.2.2.2.2.2.1
    have iY2 : Szc (rq z2 k2 u2) 201 := ⟨Sz.rq Lk2 Lu2 hk2 hu2⟩
    have Ll3 : Lim l3 := hlim.2.2.2.1.2.1
    have Lt3 : Lim t3 := hlim.2.2.2.1.2.2.1
    have iX3 : Szc (rq s3 l3 t3) 201 := ⟨Sz.rq Ll3 Lt3 hl3 ht3⟩
    have Lk3 : Lim k3 := hlim.2.2.2.1.2.2.2.2.1
    have Lu3 : Lim u3 := hlim.2.2.2.1.2.2.2.2.2.1
    have iY3 : Szc (rq z3 k3 u3) 201 := ⟨Sz.rq Lk3 Lu3 hk3 hu3⟩
    refine And.intro (Nat.le_of_ble_eq_true rfl) ?_
    repeat first | refine And.intro rfl ?_ | refine Or.inl (And.intro rfl ?_) | refine Or.inr (And.intro rfl ?_) | refine And.intro (fun (_ : true = true) => ?_) (fun (h : true = false) => Bool.noConfusion h) | refine And.intro (fun (h : false = true) => Bool.noConfusion h) (fun (_ : false = false) => ?_)
    refine And.intro ?pre ?_
    case pre =>
      repeat' refine And.intro ?_ ?_
      all_goals first | exact lenN_of (by decide) | exact lenD_of (by decide) | assumption | exact trivial | exact Nat.zero_le _ | omega
    have ivA := (inferInstance : Szc (rq s2 l2 t2 - rq s0 l0 t0) _)
    have ivB := (inferInstance : Szc (rq z2 k2 u2 - rq z0 k0 u0) _)
    generalize evA : rq s2 l2 t2 - rq s0 l0 t0 = vA
    generalize evB : rq z2 k2 u2 - rq z0 k0 u0 = vB
    rw [evA] at ivA
    rw [evB] at ivB
    have qvA := rq_cq vA
    have qvB := rq_cq vB
    repeat first | refine And.intro rfl ?_ | refine And.intro True.intro ?_ | refine Or.inl (And.intro rfl ?_) | refine Or.inr (And.intro rfl ?_) | refine And.intro (fun (_ : true = true) => ?_) (fun (h : true = false) => Bool.noConfusion h) | refine And.intro (fun (h : false = true) => Bool.noConfusion h) (fun (_ : false = false) => ?_)
    refine And.intro ?pre ?_
    case pre =>
      repeat' refine And.intro ?_ ?_
      all_goals first | exact lenN_of (by decide) | exact lenD_of (by decide) | assumption | exact trivial | exact Nat.zero_le _ | omega
    have iwA := (inferInstance : Szc (rq s3 l3 t3 - rq s2 l2 t2) _)
    have iwB := (inferInstance : Szc (rq z3 k3 u3 - rq z2 k2 u2) _)
    generalize ewA : rq s3 l3 t3 - rq s2 l2 t2 = wA
    generalize ewB : rq z3 k3 u3 - rq z2 k2 u2 = wB
    rw [ewA] at iwA
    rw [ewB] at iwB
    have qwA := rq_cq wA
    have qwB := rq_cq wB
    repeat first | refine And.intro rfl ?_ | refine And.intro True.intro ?_ | refine Or.inl (And.intro rfl ?_) | refine Or.inr (And.intro rfl ?_) | refine And.intro (fun (_ : true = true) => ?_) (fun (h : true = false) => Bool.noConfusion h) | refine And.intro (fun (h : false = true) => Bool.noConfusion h) (fun (_ : false = false) => ?_)
    refine And.intro ?pre ?_
    case pre =>
      repeat' refine And.intro ?_ ?_
      all_goals first | exact lenN_of (by decide) | exact lenD_of (by decide) | assumption | exact trivial | exact Nat.zero_le _ | omega
    rw [qvA, qwB, qvB, qwA]
    have inn := (inferInstance : Szc (vA * wB - vB * wA) _)
    generalize enn : vA * wB - vB * wA = nn
    rw [enn] at inn
    have qnn := rq_cq nn
    repeat first | refine And.intro rfl ?_ | refine And.intro True.intro ?_ | refine Or.inl (And.intro rfl ?_) | refine Or.inr (And.intro rfl ?_) | refine And.intro (fun (_ : true = true) => ?_) (fun (h : true = false) => Bool.noConfusion h) | refine And.intro (fun (h : false = true) => Bool.noConfusion h) (fun (_ : false = false) => ?_)
    refine And.intro ?pre ?_
    case pre =>
      repeat' refine And.intro ?_ ?_
      all_goals first | exact lenN_of (by decide) | exact lenD_of (by decide) | assumption | exact trivial | exact Nat.zero_le _ | omega
    have ibA := (inferInstance : Szc (rq s1 l1 t1 - rq s0 l0 t0) _)
    have ibB := (inferInstance : Szc (rq z1 k1 u1 - rq z0 k0 u0) _)
    generalize ebA : rq s1 l1 t1 - rq s0 l0 t0 = bA
    generalize ebB : rq z1 k1 u1 - rq z0 k0 u0 = bB
    rw [ebA] at ibA
    rw [ebB] at ibB
    have qbA := rq_cq bA
    have qbB := rq_cq bB
    repeat first | refine And.intro rfl ?_ | refine And.intro True.intro ?_ | refine Or.inl (And.intro rfl ?_) | refine Or.inr (And.intro rfl ?_) | refine And.intro (fun (_ : true = true) => ?_) (fun (h : true = false) => Bool.noConfusion h) | refine And.intro (fun (h : false = true) => Bool.noConfusion h) (fun (_ : false = false) => ?_)
    refine And.intro ?pre ?_
    case pre =>
      repeat' refine And.intro ?_ ?_
      all_goals first | exact lenN_of (by decide) | exact lenD_of (by decide) | assumption | exact trivial | exact Nat.zero_le _ | omega
    have ixA := (inferInstance : Szc (rq s3 l3 t3 - rq s2 l2 t2) _)
    have ixB := (inferInstance : Szc (rq z3 k3 u3 - rq z2 k2 u2) _)
    generalize exA : rq s3 l3 t3 - rq s2 l2 t2 = xA
    generalize exB : rq z3 k3 u3 - rq z2 k2 u2 = xB
    rw [exA] at ixA
    rw [exB] at ixB
    have qxA := rq_cq xA
    have qxB := rq_cq xB
    repeat first | refine And.intro rfl ?_ | refine And.intro True.intro ?_ | refine Or.inl (And.intro rfl ?_) | refine Or.inr (And.intro rfl ?_) | refine And.intro (fun (_ : true = true) => ?_) (fun (h : true = false) => Bool.noConfusion h) | refine And.intro (fun (h : false = true) => Bool.noConfusion h) (fun (_ : false = false) => ?_)
    refine And.intro ?pre ?_
    case pre =>
      repeat' refine And.intro ?_ ?_
      all_goals first | exact lenN_of (by decide) | exact lenD_of (by decide) | assumption | exact trivial | exact Nat.zero_le _ | omega
    rw [qbA, qxB, qbB, qxA]
    have idd := (inferInstance : Szc (bA * xB - bB * xA) _)
    generalize edd : bA * xB - bB * xA = dd
    rw [edd] at idd
    have qdd := rq_cq dd
    repeat first | refine And.intro rfl ?_ | refine And.intro True.intro ?_ | refine Or.inl (And.intro rfl ?_) | refine Or.inr (And.intro rfl ?_) | refine And.intro (fun (_ : true = true) => ?_) (fun (h : true = false) => Bool.noConfusion h) | refine And.intro (fun (h : false = true) => Bool.noConfusion h) (fun (_ : false = false) => ?_)
    have hD : meetD (rq s0 l0 t0, rq z0 k0 u0) (rq s1 l1 t1, rq z1 k1 u1) (rq s2 l2 t2, rq z2 k2 u2) (rq s3 l3 t3, rq z3 k3 u3) = dd := by
      show (rq s1 l1 t1 - rq s0 l0 t0) * (rq z3 k3 u3 - rq z2 k2 u2) - (rq z1 k1 u1 - rq z0 k0 u0) * (rq s3 l3 t3 - rq s2 l2 t2) = dd
      rw [ebA, exB, ebB, exA, edd]
    have hQ : meetQ (rq s0 l0 t0, rq z0 k0 u0) (rq s1 l1 t1, rq z1 k1 u1) (rq s2 l2 t2, rq z2 k2 u2) (rq s3 l3 t3, rq z3 k3 u3) = onP (rq s0 l0 t0, rq z0 k0 u0) (rq s1 l1 t1, rq z1 k1 u1) (nn / dd) := by
      unfold meetQ
      rw [hD]
      show onP _ _ (((rq s2 l2 t2 - rq s0 l0 t0) * (rq z3 k3 u3 - rq z2 k2 u2) - (rq z2 k2 u2 - rq z0 k0 u0) * (rq s3 l3 t3 - rq s2 l2 t2)) / dd) = _
      rw [evA, ewB, evB, ewA, enn]
    refine And.intro ?pre ?_
    case pre =>
      repeat' refine And.intro ?_ ?_
      all_goals first | exact lenN_of (by decide) | exact lenD_of (by decide) | assumption | exact trivial | exact Nat.zero_le _ | omega
    rw [qnn, qdd]
    have itt := (inferInstance : Szc (nn / dd) _)
    generalize ett : nn / dd = tt
    rw [ett] at itt
    generalize ez : decide (dd = 0) = z
    repeat first | refine And.intro rfl ?_ | refine And.intro True.intro ?_ | refine Or.inl (And.intro rfl ?_) | refine Or.inr (And.intro rfl ?_) | refine And.intro (fun (_ : true = true) => ?_) (fun (h : true = false) => Bool.noConfusion h) | refine And.intro (fun (h : false = true) => Bool.noConfusion h) (fun (_ : false = false) => ?_)
    cases z with
    | true =>
      refine And.intro (fun _ => ?_) (fun hc => Bool.noConfusion hc)
      repeat first | refine And.intro rfl ?_ | refine And.intro True.intro ?_ | refine Or.inl (And.intro rfl ?_) | refine Or.inr (And.intro rfl ?_) | refine And.intro (fun (_ : true = true) => ?_) (fun (h : true = false) => Bool.noConfusion h) | refine And.intro (fun (h : false = true) => Bool.noConfusion h) (fun (_ : false = false) => ?_)
      rw [hD, ez]
      rfl
    | false =>
      refine And.intro (fun hc => Bool.noConfusion hc) (fun _ => ?_)
      repeat first | refine And.intro rfl ?_ | refine And.intro True.intro ?_ | refine Or.inl (And.intro rfl ?_) | refine Or.inr (And.intro rfl ?_) | refine And.intro (fun (_ : true = true) => ?_) (fun (h : true = false) => Bool.noConfusion h) | refine And.intro (fun (h : false = true) => Bool.noConfusion h) (fun (_ : false = false) => ?_)
      refine And.intro (show l0.length ≤ 4000 ∧ t0.length ≤ 4000 ∧ k0.length ≤ 4000 ∧ u0.length ≤ 4000 ∧ l1.length ≤ 4000 ∧ t1.length ≤ 4000 ∧ k1.length ≤ 4000 ∧ u1.length ≤ 4000 ∧ (dg tt.num.natAbs).length ≤ 4000 ∧ (dg tt.den).length ≤ 4000 from ⟨by omega, by omega, by omega, by omega, by omega, by omega, by omega, by omega, itt.sz.lenN (by decide), itt.sz.lenD (by decide)⟩) ?_
      rw [show rq (bif false then false else decide (tt.num < 0)) (bif false then [] else dg tt.num.natAbs) (bif false then [] else dg tt.den) = tt from rq_cq tt]
      repeat first | refine And.intro rfl ?_ | refine And.intro True.intro ?_ | refine Or.inl (And.intro rfl ?_) | refine Or.inr (And.intro rfl ?_) | refine And.intro (fun (_ : true = true) => ?_) (fun (h : true = false) => Bool.noConfusion h) | refine And.intro (fun (h : false = true) => Bool.noConfusion h) (fun (_ : false = false) => ?_)
      rw [hD, hQ, ez, ett]
      rfl
  · cases h
set_option maxHeartbeats 2000000 in
theorem ok_r8Foot : Ok1 9 sFoot := by
  refine ok_of TR8B_ok Tryz.func9 rfl (by kernel_rfl) ?_
  intro xs pre res h hp hlim
  unfold sFoot at h
  split at h
  · rename_i s0 l0 t0 z0 k0 u0 s1 l1 t1 z1 k1 u1 s2 l2 t2 z2 k2 u2
    cases h
    obtain ⟨hl0, ht0, hk0, hu0, hl1, ht1, hk1, hu1, hl2, ht2, hk2, hu2⟩ := hp
    have Ll0 : Lim l0 := hlim.1.2.1
    have Lt0 : Lim t0 := hlim.1.2.2.1
    have iX0 : Szc (rq s0 l0 t0) 201 := ⟨Sz.rq Ll0 Lt0 hl0 ht0⟩
    have Lk0 : Lim k0 := hlim.1.2.2.2.2.1
    have Lu0 : Lim u0 := hlim.1.2.2.2.2.2.1
    have iY0 : Szc (rq z0 k0 u0) 201 := ⟨Sz.rq Lk0 Lu0 hk0 hu0⟩
    have Ll1 : Lim l1 := hlim.2.1.2.1
    have Lt1 : Lim t1 := hlim.2.1.2.2.1
    have iX1 : Szc (rq s1 l1 t1) 201 := ⟨Sz.rq Ll1 Lt1 hl1 ht1⟩
    have Lk1 : Lim k1 := hlim.2.1.2.2.2.2.1
    have Lu1 : Lim u1 := hlim.2.1.2.2.2.2.2.1
    have iY1 : Szc (rq z1 k1 u1) 201 := ⟨Sz.rq Lk1 Lu1 hk1 hu1⟩
    have Ll2 : Lim l2 := hlim.2.2.1.2.1
    have Lt2 : Lim t2 := hlim.2.2.1.2.2.1
    have iX2 : Szc (rq s2 l2 t2) 201 := ⟨Sz.rq Ll2 Lt2 hl2 ht2⟩
    have Lk2 : Lim k2 := hlim.2.2.1.2.2.2.2.1
    have Lu2 : Lim u2 := hlim.2.2.1.2.2.2.2.2.1
    have iY2 : Szc (rq z2 k2 u2) 201 := ⟨Sz.rq Lk2 Lu2 hk2 hu2⟩
    refine And.intro (Nat.le_of_ble_eq_true rfl) ?_
    repeat first | refine And.intro rfl ?_ | refine Or.inl (And.intro rfl ?_) | refine Or.inr (And.intro rfl ?_) | refine And.intro (fun (_ : true = true) => ?_) (fun (h : true = false) => Bool.noConfusion h) | refine And.intro (fun (h : false = true) => Bool.noConfusion h) (fun (_ : false = false) => ?_)
    refine And.intro ?pre ?_
    case pre =>
      repeat' refine And.intro ?_ ?_
      all_goals first | exact lenN_of (by decide) | exact lenD_of (by decide) | assumption | exact trivial | exact Nat.zero_le _ | omega
    have iwA := (inferInstance : Szc (rq s2 l2 t2 - rq s1 l1 t1) _)
    have iwB := (inferInstance : Szc (rq z2 k2 u2 - rq z1 k1 u1) _)
    generalize ewA : rq s2 l2 t2 - rq s1 l1 t1 = wA
    generalize ewB : rq z2 k2 u2 - rq z1 k1 u1 = wB
    rw [ewA] at iwA
    rw [ewB] at iwB
    have qwA := rq_cq wA
    have qwB := rq_cq wB
    repeat first | refine And.intro rfl ?_ | refine And.intro True.intro ?_ | refine Or.inl (And.intro rfl ?_) | refine Or.inr (And.intro rfl ?_) | refine And.intro (fun (_ : true = true) => ?_) (fun (h : true = false) => Bool.noConfusion h) | refine And.intro (fun (h : false = true) => Bool.noConfusion h) (fun (_ : false = false) => ?_)
    refine And.intro ?pre ?_
    case pre =>
      repeat' refine And.intro ?_ ?_
      all_goals first | exact lenN_of (by decide) | exact lenD_of (by decide) | assumption | exact trivial | exact Nat.zero_le _ | omega
    have ivA := (inferInstance : Szc (rq s0 l0 t0 - rq s1 l1 t1) _)
    have ivB := (inferInstance : Szc (rq z0 k0 u0 - rq z1 k1 u1) _)
    generalize evA : rq s0 l0 t0 - rq s1 l1 t1 = vA
    generalize evB : rq z0 k0 u0 - rq z1 k1 u1 = vB
    rw [evA] at ivA
    rw [evB] at ivB
    have qvA := rq_cq vA
    have qvB := rq_cq vB
    repeat first | refine And.intro rfl ?_ | refine And.intro True.intro ?_ | refine Or.inl (And.intro rfl ?_) | refine Or.inr (And.intro rfl ?_) | refine And.intro (fun (_ : true = true) => ?_) (fun (h : true = false) => Bool.noConfusion h) | refine And.intro (fun (h : false = true) => Bool.noConfusion h) (fun (_ : false = false) => ?_)
    refine And.intro ?pre ?_
    case pre =>
      repeat' refine And.intro ?_ ?_
      all_goals first | exact lenN_of (by decide) | exact lenD_of (by decide) | assumption | exact trivial | exact Nat.zero_le _ | omega
    rw [qvA, qwA, qvB, qwB]
    have inn := (inferInstance : Szc (vA * wA + vB * wB) _)
    generalize enn : vA * wA + vB * wB = nn
    rw [enn] at inn
    have qnn := rq_cq nn
    repeat first | refine And.intro rfl ?_ | refine And.intro True.intro ?_ | refine Or.inl (And.intro rfl ?_) | refine Or.inr (And.intro rfl ?_) | refine And.intro (fun (_ : true = true) => ?_) (fun (h : true = false) => Bool.noConfusion h) | refine And.intro (fun (h : false = true) => Bool.noConfusion h) (fun (_ : false = false) => ?_)
    refine And.intro ?pre ?_
    case pre =>
      repeat' refine And.intro ?_ ?_
      all_goals first | exact lenN_of (by decide) | exact lenD_of (by decide) | assumption | exact trivial | exact Nat.zero_le _ | omega
    rw [qwA, qwB]
    have idd := (inferInstance : Szc (wA * wA + wB * wB) _)
    generalize edd : wA * wA + wB * wB = dd
    rw [edd] at idd
    have qdd := rq_cq dd
    repeat first | refine And.intro rfl ?_ | refine And.intro True.intro ?_ | refine Or.inl (And.intro rfl ?_) | refine Or.inr (And.intro rfl ?_) | refine And.intro (fun (_ : true = true) => ?_) (fun (h : true = false) => Bool.noConfusion h) | refine And.intro (fun (h : false = true) => Bool.noConfusion h) (fun (_ : false = false) => ?_)
    have hD : footD (rq s1 l1 t1, rq z1 k1 u1) (rq s2 l2 t2, rq z2 k2 u2) = dd := by
      show (rq s2 l2 t2 - rq s1 l1 t1) * (rq s2 l2 t2 - rq s1 l1 t1) + (rq z2 k2 u2 - rq z1 k1 u1) * (rq z2 k2 u2 - rq z1 k1 u1) = dd
      rw [ewA, ewB, edd]
    have hQ : footQ (rq s0 l0 t0, rq z0 k0 u0) (rq s1 l1 t1, rq z1 k1 u1) (rq s2 l2 t2, rq z2 k2 u2) = onP (rq s1 l1 t1, rq z1 k1 u1) (rq s2 l2 t2, rq z2 k2 u2) (nn / dd) := by
      unfold footQ
      rw [hD]
      show onP _ _ (((rq s0 l0 t0 - rq s1 l1 t1) * (rq s2 l2 t2 - rq s1 l1 t1) + (rq z0 k0 u0 - rq z1 k1 u1) * (rq z2 k2 u2 - rq z1 k1 u1)) / dd) = _
      rw [evA, ewA, evB, ewB, enn]
    refine And.intro ?pre ?_
    case pre =>
      repeat' refine And.intro ?_ ?_
      all_goals first | exact lenN_of (by decide) | exact lenD_of (by decide) | assumption | exact trivial | exact Nat.zero_le _ | omega
    rw [qnn, qdd]
    have itt := (inferInstance : Szc (nn / dd) _)
    generalize ett : nn / dd = tt
    rw [ett] at itt
    generalize ez : decide (dd = 0) = z
    repeat first | refine And.intro rfl ?_ | refine And.intro True.intro ?_ | refine Or.inl (And.intro rfl ?_) | refine Or.inr (And.intro rfl ?_) | refine And.intro (fun (_ : true = true) => ?_) (fun (h : true = false) => Bool.noConfusion h) | refine And.intro (fun (h : false = true) => Bool.noConfusion h) (fun (_ : false = false) => ?_)
    cases z with
    | true =>
      refine And.intro (fun _ => ?_) (fun hc => Bool.noConfusion hc)
      repeat first | refine And.intro rfl ?_ | refine And.intro True.intro ?_ | refine Or.inl (And.intro rfl ?_) | refine Or.inr (And.intro rfl ?_) | refine And.intro (fun (_ : true = true) => ?_) (fun (h : true = false) => Bool.noConfusion h) | refine And.intro (fun (h : false = true) => Bool.noConfusion h) (fun (_ : false = false) => ?_)
      rw [hD, ez]
      rfl
    | false =>
      refine And.intro (fun hc => Bool.noConfusion hc) (fun _ => ?_)
      repeat first | refine And.intro rfl ?_ | refine And.intro True.intro ?_ | refine Or.inl (And.intro rfl ?_) | refine Or.inr (And.intro rfl ?_) | refine And.intro (fun (_ : true = true) => ?_) (fun (h : true = false) => Bool.noConfusion h) | refine And.intro (fun (h : false = true) => Bool.noConfusion h) (fun (_ : false = false) => ?_)
      refine And.intro (show l1.length ≤ 4000 ∧ t1.length ≤ 4000 ∧ k1.length ≤ 4000 ∧ u1.length ≤ 4000 ∧ l2.length ≤ 4000 ∧ t2.length ≤ 4000 ∧ k2.length ≤ 4000 ∧ u2.length ≤ 4000 ∧ (dg tt.num.natAbs).length ≤ 4000 ∧ (dg tt.den).length ≤ 4000 from ⟨by omega, by omega, by omega, by omega, by omega, by omega, by omega, by omega, itt.sz.lenN (by decide), itt.sz.lenD (by decide)⟩) ?_
      rw [show rq (bif false then false else decide (tt.num < 0)) (bif false then [] else dg tt.num.natAbs) (bif false then [] else dg tt.den) = tt from rq_cq tt]
      repeat first | refine And.intro rfl ?_ | refine And.intro True.intro ?_ | refine Or.inl (And.intro rfl ?_) | refine Or.inr (And.intro rfl ?_) | refine And.intro (fun (_ : true = true) => ?_) (fun (h : true = false) => Bool.noConfusion h) | refine And.intro (fun (h : false = true) => Bool.noConfusion h) (fun (_ : false = false) => ?_)
      rw [hD, hQ, ez, ett]
      rfl
  · cases h
def TR8C : Table := [(9, sFoot)] ++ TR8B
theorem TR8C_ok : TabOk TR8C := TabOk.append (TabOk.cons ok_r8Foot TabOk.nil) TR8B_ok
set_option maxHeartbeats 2000000 in
theorem ok_r8Mirror : Ok1 11 sMirror := by
  refine ok_of TR8C_ok Tryz.func11 rfl (by kernel_rfl) ?_
  intro xs pre res h hp hlim
  unfold sMirror at h
  split at h
  · rename_i s0 l0 t0 z0 k0 u0 s1 l1 t1 z1 k1 u1 s2 l2 t2 z2 k2 u2
    cases h
    obtain ⟨hl0, ht0, hk0, hu0, hl1, ht1, hk1, hu1, hl2, ht2, hk2, hu2⟩ := hp
    have Ll0 : Lim l0 := hlim.1.2.1
    have Lt0 : Lim t0 := hlim.1.2.2.1
    have iX0 : Szc (rq s0 l0 t0) 201 := ⟨Sz.rq Ll0 Lt0 hl0 ht0⟩
    have Lk0 : Lim k0 := hlim.1.2.2.2.2.1
    have Lu0 : Lim u0 := hlim.1.2.2.2.2.2.1
    have iY0 : Szc (rq z0 k0 u0) 201 := ⟨Sz.rq Lk0 Lu0 hk0 hu0⟩
    have Ll1 : Lim l1 := hlim.2.1.2.1
    have Lt1 : Lim t1 := hlim.2.1.2.2.1
    have iX1 : Szc (rq s1 l1 t1) 201 := ⟨Sz.rq Ll1 Lt1 hl1 ht1⟩
    have Lk1 : Lim k1 := hlim.2.1.2.2.2.2.1
    have Lu1 : Lim u1 := hlim.2.1.2.2.2.2.2.1
    have iY1 : Szc (rq z1 k1 u1) 201 := ⟨Sz.rq Lk1 Lu1 hk1 hu1⟩
    have Ll2 : Lim l2 := hlim.2.2.1.2.1
    have Lt2 : Lim t2 := hlim.2.2.1.2.2.1
    have iX2 : Szc (rq s2 l2 t2) 201 := ⟨Sz.rq Ll2 Lt2 hl2 ht2⟩
    have Lk2 : Lim k2 := hlim.2.2.1.2.2.2.2.1
    have Lu2 : Lim u2 := hlim.2.2.1.2.2.2.2.2.1
    have iY2 : Szc (rq z2 k2 u2) 201 := ⟨Sz.rq Lk2 Lu2 hk2 hu2⟩
    have hF : Sp 4000 (footQ (rq s0 l0 t0, rq z0 k0 u0) (rq s1 l1 t1, rq z1 k1 u1) (rq s2 l2 t2, rq z2 k2 u2)) := foot_sz ⟨iX0.sz, iY0.sz⟩ ⟨iX1.sz, iY1.sz⟩ ⟨iX2.sz, iY2.sz⟩
    refine And.intro (Nat.le_of_ble_eq_true rfl) ?_
    repeat first | refine And.intro rfl ?_ | refine Or.inl (And.intro rfl ?_) | refine Or.inr (And.intro rfl ?_) | refine And.intro (fun (_ : true = true) => ?_) (fun (h : true = false) => Bool.noConfusion h) | refine And.intro (fun (h : false = true) => Bool.noConfusion h) (fun (_ : false = false) => ?_)
    refine And.intro ?pre ?_
    case pre =>
      repeat' refine And.intro ?_ ?_
      all_goals first | exact lenN_of (by decide) | exact lenD_of (by decide) | assumption | exact trivial | exact Nat.zero_le _ | omega
    unfold mirQ
    generalize footQ (rq s0 l0 t0, rq z0 k0 u0) (rq s1 l1 t1, rq z1 k1 u1) (rq s2 l2 t2, rq z2 k2 u2) = F at hF
    generalize decide (footD (rq s1 l1 t1, rq z1 k1 u1) (rq s2 l2 t2, rq z2 k2 u2) = 0) = z
    repeat first | refine And.intro rfl ?_ | refine And.intro True.intro ?_ | refine Or.inl (And.intro rfl ?_) | refine Or.inr (And.intro rfl ?_) | refine And.intro (fun (_ : true = true) => ?_) (fun (h : true = false) => Bool.noConfusion h) | refine And.intro (fun (h : false = true) => Bool.noConfusion h) (fun (_ : false = false) => ?_)
    cases z with
    | true =>
      repeat first | refine And.intro rfl ?_ | refine And.intro True.intro ?_ | refine Or.inl (And.intro rfl ?_) | refine Or.inr (And.intro rfl ?_) | refine And.intro (fun (_ : true = true) => ?_) (fun (h : true = false) => Bool.noConfusion h) | refine And.intro (fun (h : false = true) => Bool.noConfusion h) (fun (_ : false = false) => ?_)
      rfl
    | false =>
      have q1 : rq (bif false then false else decide (F.1.num < 0)) (bif false then [] else dg F.1.num.natAbs) (bif false then [] else dg F.1.den) = F.1 := rq_cq F.1
      have q2 : rq (bif false then false else decide (F.2.num < 0)) (bif false then [] else dg F.2.num.natAbs) (bif false then [] else dg F.2.den) = F.2 := rq_cq F.2
      have a1 : (dg F.1.num.natAbs).length ≤ 39000 := hF.1.lenN (by decide)
      have a2 : (dg F.1.den).length ≤ 39000 := hF.1.lenD (by decide)
      have a3 : (dg F.2.num.natAbs).length ≤ 39000 := hF.2.lenN (by decide)
      have a4 : (dg F.2.den).length ≤ 39000 := hF.2.lenD (by decide)
      repeat first | refine And.intro rfl ?_ | refine And.intro True.intro ?_ | refine Or.inl (And.intro rfl ?_) | refine Or.inr (And.intro rfl ?_) | refine And.intro (fun (_ : true = true) => ?_) (fun (h : true = false) => Bool.noConfusion h) | refine And.intro (fun (h : false = true) => Bool.noConfusion h) (fun (_ : false = false) => ?_)
      refine And.intro (And.intro a1 (And.intro a2 (And.intro a3 (And.intro a4 (And.intro a1 (And.intro a2 (And.intro a3 a4))))))) ?_
      rw [q1, q2]
      have g1 : Sz 9000 (F.1 + F.1) := (hF.1.add hF.1).mono (by decide)
      have g2 : Sz 9000 (F.2 + F.2) := (hF.2.add hF.2).mono (by decide)
      generalize eG1 : F.1 + F.1 = G1 at g1
      generalize eG2 : F.2 + F.2 = G2 at g2
      have r1 := rq_cq G1
      have r2 := rq_cq G2
      repeat first | refine And.intro rfl ?_ | refine And.intro True.intro ?_ | refine Or.inl (And.intro rfl ?_) | refine Or.inr (And.intro rfl ?_) | refine And.intro (fun (_ : true = true) => ?_) (fun (h : true = false) => Bool.noConfusion h) | refine And.intro (fun (h : false = true) => Bool.noConfusion h) (fun (_ : false = false) => ?_)
      refine And.intro (And.intro (g1.lenN (by decide)) (And.intro (g1.lenD (by decide)) (And.intro (g2.lenN (by decide)) (And.intro (g2.lenD (by decide)) (And.intro (show l0.length ≤ 39000 by omega) (And.intro (show t0.length ≤ 39000 by omega) (And.intro (show k0.length ≤ 39000 by omega) (show u0.length ≤ 39000 by omega)))))))) ?_
      rw [r1, r2]
      repeat first | refine And.intro rfl ?_ | refine And.intro True.intro ?_ | refine Or.inl (And.intro rfl ?_) | refine Or.inr (And.intro rfl ?_) | refine And.intro (fun (_ : true = true) => ?_) (fun (h : true = false) => Bool.noConfusion h) | refine And.intro (fun (h : false = true) => Bool.noConfusion h) (fun (_ : false = false) => ?_)
      show Res.t [.agg (dz false (G1 - rq s0 l0 t0, G2 - rq z0 k0 u0)), .val (.int .i64 0)] = Res.t [.agg (dz false (F.1 + F.1 - rq s0 l0 t0, F.2 + F.2 - rq z0 k0 u0)), .val (.int .i64 0)]
      rw [eG1, eG2]
  · cases h


end Go.Gm
