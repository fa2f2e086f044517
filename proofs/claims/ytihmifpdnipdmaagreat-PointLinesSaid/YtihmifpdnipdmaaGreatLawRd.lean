/-
  The statements about points: PointLines. Plain theorems; no condition.
-/
import Derived.Test.YtihmifpdnipdmaaGreatLawRs
import Derived.Test.YtihmifpdnipdmaaGreatPtE
import Derived.Test.YtihmifpdnipdmaaGreatR8B
set_option linter.all false
namespace Go.Gm
open Go.Proofs


attribute [local irreducible] mkRat rq meetD meetQ footD footQ mirQ rnd grdB cmpQ samePR lightPR

theorem cut_len {b : Bool} {l : List Nat} {n : Nat} (h : l.length ≤ n) : (bif b then [] else l).length ≤ n := by cases b with
  | true => exact Nat.zero_le _
  | false => exact h

def TW6 : Table := [(7, sMeet), (9, sFoot), (11, sMirror), (14, sPtSide)] ++ TW3
theorem TW6_ok : TabOk TW6 := TabOk.append (TabOk.cons ok_r8Meet (TabOk.cons ok_r8Foot (TabOk.cons ok_r8Mirror (TabOk.cons ok_r8Side TabOk.nil)))) TW3_ok

def sPointLines : List RV → Option (Prop × Res)
  | [.agg [.b (.val (.bool s0)), .b (.nat l0), .b (.nat t0), .b (.val (.bool z0)), .b (.nat k0), .b (.nat u0), .b (.val (.bool s1)), .b (.nat l1), .b (.nat t1), .b (.val (.bool z1)), .b (.nat k1), .b (.nat u1), .b (.val (.bool s2)), .b (.nat l2), .b (.nat t2), .b (.val (.bool z2)), .b (.nat k2), .b (.nat u2), .b (.val (.bool s3)), .b (.nat l3), .b (.nat t3), .b (.val (.bool z3)), .b (.nat k3), .b (.nat u3)]] => some (True, .r (.val (.bool true)))
  | _ => none

set_option maxRecDepth 20000 in
set_option maxHeartbeats 8000000 in
theorem ok_PointLines : Ok1 3 sPointLines := by
  refine ok_of TW6_ok Tryz.func3 rfl (by kernel_rfl) ?_
  intro xs pre res h hp hlim
  unfold sPointLines at h
  split at h
  · rename_i s0 l0 t0 z0 k0 u0 s1 l1 t1 z1 k1 u1 s2 l2 t2 z2 k2 u2 s3 l3 t3 z3 k3 u3
    cases h
    refine And.intro (Nat.le_of_ble_eq_true rfl) ?_
    repeat first | refine And.intro rfl ?_ | refine Or.inl (And.intro rfl ?_) | refine Or.inr (And.intro rfl ?_) | refine And.intro (fun (_ : true = true) => ?_) (fun (h : true = false) => Bool.noConfusion h) | refine And.intro (fun (h : false = true) => Bool.noConfusion h) (fun (_ : false = false) => ?_)
    repeat first | refine And.intro nn0 ?_ | refine And.intro nn1 ?_ | refine And.intro nn2 ?_ | refine And.intro nn3 ?_ | refine And.intro rfl ?_ | refine And.intro True.intro ?_ | refine Or.inl (And.intro rfl ?_) | refine Or.inr (And.intro rfl ?_) | refine And.intro (fun (_ : true = true) => ?_) (fun (h : true = false) => Bool.noConfusion h) | refine And.intro (fun (h : false = true) => Bool.noConfusion h) (fun (_ : false = false) => ?_)
    refine And.intro (fun hc => ?_) (fun hc => ?_)
    · repeat first | refine And.intro nn0 ?_ | refine And.intro nn1 ?_ | refine And.intro nn2 ?_ | refine And.intro nn3 ?_ | refine And.intro rfl ?_ | refine And.intro True.intro ?_ | refine Or.inl (And.intro rfl ?_) | refine Or.inr (And.intro rfl ?_) | refine And.intro (fun (_ : true = true) => ?_) (fun (h : true = false) => Bool.noConfusion h) | refine And.intro (fun (h : false = true) => Bool.noConfusion h) (fun (_ : false = false) => ?_)
      rfl
    have g : ((lightPR 3 ⟨s0, l0, t0, z0, k0, u0⟩) && (lightPR 3 ⟨s1, l1, t1, z1, k1, u1⟩) && (lightPR 3 ⟨s2, l2, t2, z2, k2, u2⟩) && (lightPR 3 ⟨s3, l3, t3, z3, k3, u3⟩)) = true := by
      have hc : (!((lightPR 3 ⟨s0, l0, t0, z0, k0, u0⟩) && (lightPR 3 ⟨s1, l1, t1, z1, k1, u1⟩) && (lightPR 3 ⟨s2, l2, t2, z2, k2, u2⟩) && (lightPR 3 ⟨s3, l3, t3, z3, k3, u3⟩))) = false := hc
      simpa using hc
    simp only [Bool.and_eq_true] at g
    obtain ⟨⟨⟨g0, g1⟩, g2⟩, g3⟩ := g
    have w0 := lightPR_le (n := 3) g0
    obtain ⟨hl0, ht0, hk0, hu0⟩ := w0
    have hl0 : l0.length ≤ 3 := hl0
    have ht0 : t0.length ≤ 3 := ht0
    have hk0 : k0.length ≤ 3 := hk0
    have hu0 : u0.length ≤ 3 := hu0
    have iX0 : Szc (rq s0 l0 t0) (3 + 1) := ⟨Sz.rq hlim.1.2.1 hlim.1.2.2.1 hl0 ht0⟩
    have iY0 : Szc (rq z0 k0 u0) (3 + 1) := ⟨Sz.rq hlim.1.2.2.2.2.1 hlim.1.2.2.2.2.2.1 hk0 hu0⟩
    have w1 := lightPR_le (n := 3) g1
    obtain ⟨hl1, ht1, hk1, hu1⟩ := w1
    have hl1 : l1.length ≤ 3 := hl1
    have ht1 : t1.length ≤ 3 := ht1
    have hk1 : k1.length ≤ 3 := hk1
    have hu1 : u1.length ≤ 3 := hu1
    have iX1 : Szc (rq s1 l1 t1) (3 + 1) := ⟨Sz.rq hlim.1.2.2.2.2.2.2.2.1 hlim.1.2.2.2.2.2.2.2.2.1 hl1 ht1⟩
    have iY1 : Szc (rq z1 k1 u1) (3 + 1) := ⟨Sz.rq hlim.1.2.2.2.2.2.2.2.2.2.2.1 hlim.1.2.2.2.2.2.2.2.2.2.2.2.1 hk1 hu1⟩
    have w2 := lightPR_le (n := 3) g2
    obtain ⟨hl2, ht2, hk2, hu2⟩ := w2
    have hl2 : l2.length ≤ 3 := hl2
    have ht2 : t2.length ≤ 3 := ht2
    have hk2 : k2.length ≤ 3 := hk2
    have hu2 : u2.length ≤ 3 := hu2
    have iX2 : Szc (rq s2 l2 t2) (3 + 1) := ⟨Sz.rq hlim.1.2.2.2.2.2.2.2.2.2.2.2.2.2.1 hlim.1.2.2.2.2.2.2.2.2.2.2.2.2.2.2.1 hl2 ht2⟩
    have iY2 : Szc (rq z2 k2 u2) (3 + 1) := ⟨Sz.rq hlim.1.2.2.2.2.2.2.2.2.2.2.2.2.2.2.2.2.1 hlim.1.2.2.2.2.2.2.2.2.2.2.2.2.2.2.2.2.2.1 hk2 hu2⟩
    have w3 := lightPR_le (n := 3) g3
    obtain ⟨hl3, ht3, hk3, hu3⟩ := w3
    have hl3 : l3.length ≤ 3 := hl3
    have ht3 : t3.length ≤ 3 := ht3
    have hk3 : k3.length ≤ 3 := hk3
    have hu3 : u3.length ≤ 3 := hu3
    have iX3 : Szc (rq s3 l3 t3) (3 + 1) := ⟨Sz.rq hlim.1.2.2.2.2.2.2.2.2.2.2.2.2.2.2.2.2.2.2.2.1 hlim.1.2.2.2.2.2.2.2.2.2.2.2.2.2.2.2.2.2.2.2.2.1 hl3 ht3⟩
    have iY3 : Szc (rq z3 k3 u3) (3 + 1) := ⟨Sz.rq hlim.1.2.2.2.2.2.2.2.2.2.2.2.2.2.2.2.2.2.2.2.2.2.2.1 hlim.1.2.2.2.2.2.2.2.2.2.2.2.2.2.2.2.2.2.2.2.2.2.2.2.1 hk3 hu3⟩
    repeat first | refine And.intro nn0 ?_ | refine And.intro nn1 ?_ | refine And.intro nn2 ?_ | refine And.intro nn3 ?_ | refine And.intro rfl ?_ | refine And.intro True.intro ?_ | refine Or.inl (And.intro rfl ?_) | refine Or.inr (And.intro rfl ?_) | refine And.intro (fun (_ : true = true) => ?_) (fun (h : true = false) => Bool.noConfusion h) | refine And.intro (fun (h : false = true) => Bool.noConfusion h) (fun (_ : false = false) => ?_)
    have hm : Sp 95 (meetQ (rq s0 l0 t0, rq z0 k0 u0) (rq s1 l1 t1, rq z1 k1 u1) (rq s2 l2 t2, rq z2 k2 u2) (rq s3 l3 t3, rq z3 k3 u3)) := meet_sz4 ⟨iX0.sz, iY0.sz⟩ ⟨iX1.sz, iY1.sz⟩ ⟨iX2.sz, iY2.sz⟩ ⟨iX3.sz, iY3.sz⟩
    generalize em : meetQ (rq s0 l0 t0, rq z0 k0 u0) (rq s1 l1 t1, rq z1 k1 u1) (rq s2 l2 t2, rq z2 k2 u2) (rq s3 l3 t3, rq z3 k3 u3) = m at hm
    have hf : Sp 95 (footQ (rq s0 l0 t0, rq z0 k0 u0) (rq s1 l1 t1, rq z1 k1 u1) (rq s2 l2 t2, rq z2 k2 u2)) := foot_sz4 ⟨iX0.sz, iY0.sz⟩ ⟨iX1.sz, iY1.sz⟩ ⟨iX2.sz, iY2.sz⟩
    generalize ef : footQ (rq s0 l0 t0, rq z0 k0 u0) (rq s1 l1 t1, rq z1 k1 u1) (rq s2 l2 t2, rq z2 k2 u2) = f at hf
    have hr : Sp 196 (mirQ (rq s0 l0 t0, rq z0 k0 u0) (rq s1 l1 t1, rq z1 k1 u1) (rq s2 l2 t2, rq z2 k2 u2)) := mir_sz4 ⟨iX0.sz, iY0.sz⟩ ⟨iX1.sz, iY1.sz⟩ ⟨iX2.sz, iY2.sz⟩
    generalize er : mirQ (rq s0 l0 t0, rq z0 k0 u0) (rq s1 l1 t1, rq z1 k1 u1) (rq s2 l2 t2, rq z2 k2 u2) = r at hr
    generalize hzm : decide (meetD (rq s0 l0 t0, rq z0 k0 u0) (rq s1 l1 t1, rq z1 k1 u1) (rq s2 l2 t2, rq z2 k2 u2) (rq s3 l3 t3, rq z3 k3 u3) = 0) = zm
    generalize hzf : decide (footD (rq s1 l1 t1, rq z1 k1 u1) (rq s2 l2 t2, rq z2 k2 u2) = 0) = zf
    refine And.intro ?pre ?_
    case pre =>
      repeat' refine And.intro ?_ ?_
      all_goals first | exact lenN_of (by decide) | exact lenD_of (by decide) | assumption | exact trivial | exact Nat.zero_le _ | omega
    rw [em, hzm]
    repeat first | refine And.intro nn0 ?_ | refine And.intro nn1 ?_ | refine And.intro nn2 ?_ | refine And.intro nn3 ?_ | refine And.intro rfl ?_ | refine And.intro True.intro ?_ | refine Or.inl (And.intro rfl ?_) | refine Or.inr (And.intro rfl ?_) | refine And.intro (fun (_ : true = true) => ?_) (fun (h : true = false) => Bool.noConfusion h) | refine And.intro (fun (h : false = true) => Bool.noConfusion h) (fun (_ : false = false) => ?_)
    refine And.intro ?pre ?_
    case pre =>
      repeat' refine And.intro ?_ ?_
      all_goals first | exact lenN_of (by decide) | exact lenD_of (by decide) | assumption | exact trivial | exact Nat.zero_le _ | omega
    rw [em, hzm]
    repeat first | refine And.intro nn0 ?_ | refine And.intro nn1 ?_ | refine And.intro nn2 ?_ | refine And.intro nn3 ?_ | refine And.intro rfl ?_ | refine And.intro True.intro ?_ | refine Or.inl (And.intro rfl ?_) | refine Or.inr (And.intro rfl ?_) | refine And.intro (fun (_ : true = true) => ?_) (fun (h : true = false) => Bool.noConfusion h) | refine And.intro (fun (h : false = true) => Bool.noConfusion h) (fun (_ : false = false) => ?_)
    refine And.intro ?pre ?_
    case pre =>
      repeat' refine And.intro ?_ ?_
      all_goals first | exact lenN_of (by decide) | exact lenD_of (by decide) | assumption | exact trivial | exact Nat.zero_le _ | omega
    rw [ef, hzf]
    repeat first | refine And.intro nn0 ?_ | refine And.intro nn1 ?_ | refine And.intro nn2 ?_ | refine And.intro nn3 ?_ | refine And.intro rfl ?_ | refine And.intro True.intro ?_ | refine Or.inl (And.intro rfl ?_) | refine Or.inr (And.intro rfl ?_) | refine And.intro (fun (_ : true = true) => ?_) (fun (h : true = false) => Bool.noConfusion h) | refine And.intro (fun (h : false = true) => Bool.noConfusion h) (fun (_ : false = false) => ?_)
    refine And.intro ?pre ?_
    case pre =>
      repeat' refine And.intro ?_ ?_
      all_goals first | exact lenN_of (by decide) | exact lenD_of (by decide) | assumption | exact trivial | exact Nat.zero_le _ | omega
    rw [ef, hzf]
    repeat first | refine And.intro nn0 ?_ | refine And.intro nn1 ?_ | refine And.intro nn2 ?_ | refine And.intro nn3 ?_ | refine And.intro rfl ?_ | refine And.intro True.intro ?_ | refine Or.inl (And.intro rfl ?_) | refine Or.inr (And.intro rfl ?_) | refine And.intro (fun (_ : true = true) => ?_) (fun (h : true = false) => Bool.noConfusion h) | refine And.intro (fun (h : false = true) => Bool.noConfusion h) (fun (_ : false = false) => ?_)
    refine And.intro ?pre ?_
    case pre =>
      repeat' refine And.intro ?_ ?_
      all_goals first | exact lenN_of (by decide) | exact lenD_of (by decide) | assumption | exact trivial | exact Nat.zero_le _ | omega
    rw [er, hzf]
    repeat first | refine And.intro nn0 ?_ | refine And.intro nn1 ?_ | refine And.intro nn2 ?_ | refine And.intro nn3 ?_ | refine And.intro rfl ?_ | refine And.intro True.intro ?_ | refine Or.inl (And.intro rfl ?_) | refine Or.inr (And.intro rfl ?_) | refine And.intro (fun (_ : true = true) => ?_) (fun (h : true = false) => Bool.noConfusion h) | refine And.intro (fun (h : false = true) => Bool.noConfusion h) (fun (_ : false = false) => ?_)
    refine And.intro ?pre ?_
    case pre =>
      repeat' refine And.intro ?_ ?_
      all_goals first | exact lenN_of (by decide) | exact lenD_of (by decide) | assumption | exact trivial | exact Nat.zero_le _ | omega
    rw [er, hzf]
    repeat first | refine And.intro nn0 ?_ | refine And.intro nn1 ?_ | refine And.intro nn2 ?_ | refine And.intro nn3 ?_ | refine And.intro rfl ?_ | refine And.intro True.intro ?_ | refine Or.inl (And.intro rfl ?_) | refine Or.inr (And.intro rfl ?_) | refine And.intro (fun (_ : true = true) => ?_) (fun (h : true = false) => Bool.noConfusion h) | refine And.intro (fun (h : false = true) => Bool.noConfusion h) (fun (_ : false = false) => ?_)
    refine And.intro (And.intro (cut_len (hm.1.lenN (by decide))) (And.intro (cut_len (hm.1.lenD (by decide))) (And.intro (cut_len (hm.2.lenN (by decide))) (cut_len (hm.2.lenD (by decide)))))) ?_
    repeat first | refine And.intro nn0 ?_ | refine And.intro nn1 ?_ | refine And.intro nn2 ?_ | refine And.intro nn3 ?_ | refine And.intro rfl ?_ | refine And.intro True.intro ?_ | refine Or.inl (And.intro rfl ?_) | refine Or.inr (And.intro rfl ?_) | refine And.intro (fun (_ : true = true) => ?_) (fun (h : true = false) => Bool.noConfusion h) | refine And.intro (fun (h : false = true) => Bool.noConfusion h) (fun (_ : false = false) => ?_)
    refine Or.inl (And.intro (show samePR _ _ = true from samePR_iff.2 rfl) ?_)
    repeat first | refine And.intro nn0 ?_ | refine And.intro nn1 ?_ | refine And.intro nn2 ?_ | refine And.intro nn3 ?_ | refine And.intro rfl ?_ | refine And.intro True.intro ?_ | refine Or.inl (And.intro rfl ?_) | refine Or.inr (And.intro rfl ?_) | refine And.intro (fun (_ : true = true) => ?_) (fun (h : true = false) => Bool.noConfusion h) | refine And.intro (fun (h : false = true) => Bool.noConfusion h) (fun (_ : false = false) => ?_)
    refine Or.inl (And.intro (show ((bif zm then (10 : Int) else 0) == bif zm then 10 else 0) = true by simp) ?_)
    repeat first | refine And.intro nn0 ?_ | refine And.intro nn1 ?_ | refine And.intro nn2 ?_ | refine And.intro nn3 ?_ | refine And.intro rfl ?_ | refine And.intro True.intro ?_ | refine Or.inl (And.intro rfl ?_) | refine Or.inr (And.intro rfl ?_) | refine And.intro (fun (_ : true = true) => ?_) (fun (h : true = false) => Bool.noConfusion h) | refine And.intro (fun (h : false = true) => Bool.noConfusion h) (fun (_ : false = false) => ?_)
    refine And.intro (And.intro (cut_len (hf.1.lenN (by decide))) (And.intro (cut_len (hf.1.lenD (by decide))) (And.intro (cut_len (hf.2.lenN (by decide))) (cut_len (hf.2.lenD (by decide)))))) ?_
    repeat first | refine And.intro nn0 ?_ | refine And.intro nn1 ?_ | refine And.intro nn2 ?_ | refine And.intro nn3 ?_ | refine And.intro rfl ?_ | refine And.intro True.intro ?_ | refine Or.inl (And.intro rfl ?_) | refine Or.inr (And.intro rfl ?_) | refine And.intro (fun (_ : true = true) => ?_) (fun (h : true = false) => Bool.noConfusion h) | refine And.intro (fun (h : false = true) => Bool.noConfusion h) (fun (_ : false = false) => ?_)
    refine Or.inl (And.intro (show samePR _ _ = true from samePR_iff.2 rfl) ?_)
    repeat first | refine And.intro nn0 ?_ | refine And.intro nn1 ?_ | refine And.intro nn2 ?_ | refine And.intro nn3 ?_ | refine And.intro rfl ?_ | refine And.intro True.intro ?_ | refine Or.inl (And.intro rfl ?_) | refine Or.inr (And.intro rfl ?_) | refine And.intro (fun (_ : true = true) => ?_) (fun (h : true = false) => Bool.noConfusion h) | refine And.intro (fun (h : false = true) => Bool.noConfusion h) (fun (_ : false = false) => ?_)
    refine Or.inl (And.intro (show ((bif zf then (10 : Int) else 0) == bif zf then 10 else 0) = true by simp) ?_)
    repeat first | refine And.intro nn0 ?_ | refine And.intro nn1 ?_ | refine And.intro nn2 ?_ | refine And.intro nn3 ?_ | refine And.intro rfl ?_ | refine And.intro True.intro ?_ | refine Or.inl (And.intro rfl ?_) | refine Or.inr (And.intro rfl ?_) | refine And.intro (fun (_ : true = true) => ?_) (fun (h : true = false) => Bool.noConfusion h) | refine And.intro (fun (h : false = true) => Bool.noConfusion h) (fun (_ : false = false) => ?_)
    refine And.intro (And.intro (cut_len (hr.1.lenN (by decide))) (And.intro (cut_len (hr.1.lenD (by decide))) (And.intro (cut_len (hr.2.lenN (by decide))) (cut_len (hr.2.lenD (by decide)))))) ?_
    repeat first | refine And.intro nn0 ?_ | refine And.intro nn1 ?_ | refine And.intro nn2 ?_ | refine And.intro nn3 ?_ | refine And.intro rfl ?_ | refine And.intro True.intro ?_ | refine Or.inl (And.intro rfl ?_) | refine Or.inr (And.intro rfl ?_) | refine And.intro (fun (_ : true = true) => ?_) (fun (h : true = false) => Bool.noConfusion h) | refine And.intro (fun (h : false = true) => Bool.noConfusion h) (fun (_ : false = false) => ?_)
    refine Or.inl (And.intro (show samePR _ _ = true from samePR_iff.2 rfl) ?_)
    repeat first | refine And.intro nn0 ?_ | refine And.intro nn1 ?_ | refine And.intro nn2 ?_ | refine And.intro nn3 ?_ | refine And.intro rfl ?_ | refine And.intro True.intro ?_ | refine Or.inl (And.intro rfl ?_) | refine Or.inr (And.intro rfl ?_) | refine And.intro (fun (_ : true = true) => ?_) (fun (h : true = false) => Bool.noConfusion h) | refine And.intro (fun (h : false = true) => Bool.noConfusion h) (fun (_ : false = false) => ?_)
    refine Or.inl (And.intro (show ((bif zf then (10 : Int) else 0) == bif zf then 10 else 0) = true by simp) ?_)
    repeat first | refine And.intro nn0 ?_ | refine And.intro nn1 ?_ | refine And.intro nn2 ?_ | refine And.intro nn3 ?_ | refine And.intro rfl ?_ | refine And.intro True.intro ?_ | refine Or.inl (And.intro rfl ?_) | refine Or.inr (And.intro rfl ?_) | refine And.intro (fun (_ : true = true) => ?_) (fun (h : true = false) => Bool.noConfusion h) | refine And.intro (fun (h : false = true) => Bool.noConfusion h) (fun (_ : false = false) => ?_)
    refine And.intro ?pre ?_
    case pre =>
      repeat' refine And.intro ?_ ?_
      all_goals first | exact lenN_of (by decide) | exact lenD_of (by decide) | assumption | exact trivial | exact Nat.zero_le _ | omega
    generalize en : cmpQ ((rq s1 l1 t1 - rq s0 l0 t0) * (rq z2 k2 u2 - rq z0 k0 u0) - (rq z1 k1 u1 - rq z0 k0 u0) * (rq s2 l2 t2 - rq s0 l0 t0)) 0 = n
    repeat first | refine And.intro nn0 ?_ | refine And.intro nn1 ?_ | refine And.intro nn2 ?_ | refine And.intro nn3 ?_ | refine And.intro rfl ?_ | refine And.intro True.intro ?_ | refine Or.inl (And.intro rfl ?_) | refine Or.inr (And.intro rfl ?_) | refine And.intro (fun (_ : true = true) => ?_) (fun (h : true = false) => Bool.noConfusion h) | refine And.intro (fun (h : false = true) => Bool.noConfusion h) (fun (_ : false = false) => ?_)
    refine And.intro ?pre ?_
    case pre =>
      repeat' refine And.intro ?_ ?_
      all_goals first | exact lenN_of (by decide) | exact lenD_of (by decide) | assumption | exact trivial | exact Nat.zero_le _ | omega
    rw [en]
    repeat first | refine And.intro nn0 ?_ | refine And.intro nn1 ?_ | refine And.intro nn2 ?_ | refine And.intro nn3 ?_ | refine And.intro rfl ?_ | refine And.intro True.intro ?_ | refine Or.inl (And.intro rfl ?_) | refine Or.inr (And.intro rfl ?_) | refine And.intro (fun (_ : true = true) => ?_) (fun (h : true = false) => Bool.noConfusion h) | refine And.intro (fun (h : false = true) => Bool.noConfusion h) (fun (_ : false = false) => ?_)
    refine Or.inl (And.intro (show (n == n) = true by simp) ?_)
    repeat first | refine And.intro nn0 ?_ | refine And.intro nn1 ?_ | refine And.intro nn2 ?_ | refine And.intro nn3 ?_ | refine And.intro rfl ?_ | refine And.intro True.intro ?_ | refine Or.inl (And.intro rfl ?_) | refine Or.inr (And.intro rfl ?_) | refine And.intro (fun (_ : true = true) => ?_) (fun (h : true = false) => Bool.noConfusion h) | refine And.intro (fun (h : false = true) => Bool.noConfusion h) (fun (_ : false = false) => ?_)
    rfl
  · cases h


end Go.Gm
