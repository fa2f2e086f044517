/-
  The points of the reference. Plain theorems; no condition.
-/
import Derived.Test.YtihmifpdnipdmaaGreatRefM
import Derived.Test.YtihmifpdnipdmaaGreatPt
set_option linter.all false
namespace Go.Gm
open Go.Proofs

def TQt0 : Table := [(57, sRatAdd), (53, sRatSub), (54, sRatMul), (34, sRatCmp), (80, sRatNeg), (50, sRatNorm), (39, sRatOf)]
theorem TQt0_ok : TabOk TQt0 := (TabOk.cons ok_kAdd (TabOk.cons ok_kSub (TabOk.cons ok_kMul (TabOk.cons ok_kCmp (TabOk.cons ok_kNeg (TabOk.cons ok_kNorm (TabOk.cons ok_kOf TabOk.nil)))))))
set_option maxHeartbeats 1000000 in
theorem ok_r8Add : Ok1 32 sPtAdd := by
  refine ok_of TQt0_ok Tryz.func32 rfl (by kernel_rfl) ?_
  intro xs pre res h hp hlim
  unfold sPtAdd at h
  split at h
  · rename_i s0 l0 t0 z0 k0 u0 s1 l1 t1 z1 k1 u1
    cases h
    obtain ⟨hl0, ht0, hk0, hu0, hl1, ht1, hk1, hu1⟩ := hp
    have Ll0 : Lim l0 := hlim.1.2.1
    have Lt0 : Lim t0 := hlim.1.2.2.1
    have iX0 : Szc (rq s0 l0 t0) 39001 := ⟨Sz.rq Ll0 Lt0 hl0 ht0⟩
    have Lk0 : Lim k0 := hlim.1.2.2.2.2.1
    have Lu0 : Lim u0 := hlim.1.2.2.2.2.2.1
    have iY0 : Szc (rq z0 k0 u0) 39001 := ⟨Sz.rq Lk0 Lu0 hk0 hu0⟩
    have Ll1 : Lim l1 := hlim.2.1.2.1
    have Lt1 : Lim t1 := hlim.2.1.2.2.1
    have iX1 : Szc (rq s1 l1 t1) 39001 := ⟨Sz.rq Ll1 Lt1 hl1 ht1⟩
    have Lk1 : Lim k1 := hlim.2.1.2.2.2.2.1
    have Lu1 : Lim u1 := hlim.2.1.2.2.2.2.2.1
    have iY1 : Szc (rq z1 k1 u1) 39001 := ⟨Sz.rq Lk1 Lu1 hk1 hu1⟩
    refine And.intro (Nat.le_of_ble_eq_true rfl) ?_
    repeat first | refine And.intro rfl ?_ | refine Or.inl (And.intro rfl ?_) | refine Or.inr (And.intro rfl ?_) | refine And.intro (fun (_ : true = true) => ?_) (fun (h : true = false) => Bool.noConfusion h) | refine And.intro (fun (h : false = true) => Bool.noConfusion h) (fun (_ : false = false) => ?_)
    refine And.intro ?pre ?_
    case pre =>
      repeat' refine And.intro ?_ ?_
      all_goals first | exact lenN_of (by decide) | exact lenD_of (by decide) | assumption | exact trivial | exact Nat.zero_le _ | omega
    repeat first | refine And.intro rfl ?_ | refine And.intro True.intro ?_ | refine Or.inl (And.intro rfl ?_) | refine Or.inr (And.intro rfl ?_) | refine And.intro (fun (_ : true = true) => ?_) (fun (h : true = false) => Bool.noConfusion h) | refine And.intro (fun (h : false = true) => Bool.noConfusion h) (fun (_ : false = false) => ?_)
    refine And.intro ?pre ?_
    case pre =>
      repeat' refine And.intro ?_ ?_
      all_goals first | exact lenN_of (by decide) | exact lenD_of (by decide) | assumption | exact trivial | exact Nat.zero_le _ | omega
    repeat first | refine And.intro rfl ?_ | refine And.intro True.intro ?_ | refine Or.inl (And.intro rfl ?_) | refine Or.inr (And.intro rfl ?_) | refine And.intro (fun (_ : true = true) => ?_) (fun (h : true = false) => Bool.noConfusion h) | refine And.intro (fun (h : false = true) => Bool.noConfusion h) (fun (_ : false = false) => ?_)
    rfl
  · cases h
set_option maxHeartbeats 1000000 in
theorem ok_r8Sub : Ok1 27 sPtSub := by
  refine ok_of TQt0_ok Tryz.func27 rfl (by kernel_rfl) ?_
  intro xs pre res h hp hlim
  unfold sPtSub at h
  split at h
  · rename_i s0 l0 t0 z0 k0 u0 s1 l1 t1 z1 k1 u1
    cases h
    obtain ⟨hl0, ht0, hk0, hu0, hl1, ht1, hk1, hu1⟩ := hp
    have Ll0 : Lim l0 := hlim.1.2.1
    have Lt0 : Lim t0 := hlim.1.2.2.1
    have iX0 : Szc (rq s0 l0 t0) 39001 := ⟨Sz.rq Ll0 Lt0 hl0 ht0⟩
    have Lk0 : Lim k0 := hlim.1.2.2.2.2.1
    have Lu0 : Lim u0 := hlim.1.2.2.2.2.2.1
    have iY0 : Szc (rq z0 k0 u0) 39001 := ⟨Sz.rq Lk0 Lu0 hk0 hu0⟩
    have Ll1 : Lim l1 := hlim.2.1.2.1
    have Lt1 : Lim t1 := hlim.2.1.2.2.1
    have iX1 : Szc (rq s1 l1 t1) 39001 := ⟨Sz.rq Ll1 Lt1 hl1 ht1⟩
    have Lk1 : Lim k1 := hlim.2.1.2.2.2.2.1
    have Lu1 : Lim u1 := hlim.2.1.2.2.2.2.2.1
    have iY1 : Szc (rq z1 k1 u1) 39001 := ⟨Sz.rq Lk1 Lu1 hk1 hu1⟩
    refine And.intro (Nat.le_of_ble_eq_true rfl) ?_
    repeat first | refine And.intro rfl ?_ | refine Or.inl (And.intro rfl ?_) | refine Or.inr (And.intro rfl ?_) | refine And.intro (fun (_ : true = true) => ?_) (fun (h : true = false) => Bool.noConfusion h) | refine And.intro (fun (h : false = true) => Bool.noConfusion h) (fun (_ : false = false) => ?_)
    refine And.intro ?pre ?_
    case pre =>
      repeat' refine And.intro ?_ ?_
      all_goals first | exact lenN_of (by decide) | exact lenD_of (by decide) | assumption | exact trivial | exact Nat.zero_le _ | omega
    repeat first | refine And.intro rfl ?_ | refine And.intro True.intro ?_ | refine Or.inl (And.intro rfl ?_) | refine Or.inr (And.intro rfl ?_) | refine And.intro (fun (_ : true = true) => ?_) (fun (h : true = false) => Bool.noConfusion h) | refine And.intro (fun (h : false = true) => Bool.noConfusion h) (fun (_ : false = false) => ?_)
    refine And.intro ?pre ?_
    case pre =>
      repeat' refine And.intro ?_ ?_
      all_goals first | exact lenN_of (by decide) | exact lenD_of (by decide) | assumption | exact trivial | exact Nat.zero_le _ | omega
    repeat first | refine And.intro rfl ?_ | refine And.intro True.intro ?_ | refine Or.inl (And.intro rfl ?_) | refine Or.inr (And.intro rfl ?_) | refine And.intro (fun (_ : true = true) => ?_) (fun (h : true = false) => Bool.noConfusion h) | refine And.intro (fun (h : false = true) => Bool.noConfusion h) (fun (_ : false = false) => ?_)
    rfl
  · cases h
set_option maxHeartbeats 1000000 in
theorem ok_r8Scale : Ok1 55 sPtScale := by
  refine ok_of TQt0_ok Tryz.func55 rfl (by kernel_rfl) ?_
  intro xs pre res h hp hlim
  unfold sPtScale at h
  split at h
  · rename_i s0 l0 t0 z0 k0 u0 s1 l1 t1
    cases h
    obtain ⟨hl0, ht0, hk0, hu0, hl1, ht1⟩ := hp
    have Ll0 : Lim l0 := hlim.1.2.1
    have Lt0 : Lim t0 := hlim.1.2.2.1
    have iX0 : Szc (rq s0 l0 t0) 39001 := ⟨Sz.rq Ll0 Lt0 hl0 ht0⟩
    have Lk0 : Lim k0 := hlim.1.2.2.2.2.1
    have Lu0 : Lim u0 := hlim.1.2.2.2.2.2.1
    have iY0 : Szc (rq z0 k0 u0) 39001 := ⟨Sz.rq Lk0 Lu0 hk0 hu0⟩
    have Ll1 : Lim l1 := hlim.2.1.2.1
    have Lt1 : Lim t1 := hlim.2.1.2.2.1
    have iX1 : Szc (rq s1 l1 t1) 39001 := ⟨Sz.rq Ll1 Lt1 hl1 ht1⟩
    refine And.intro (Nat.le_of_ble_eq_true rfl) ?_
    repeat first | refine And.intro rfl ?_ | refine Or.inl (And.intro rfl ?_) | refine Or.inr (And.intro rfl ?_) | refine And.intro (fun (_ : true = true) => ?_) (fun (h : true = false) => Bool.noConfusion h) | refine And.intro (fun (h : false = true) => Bool.noConfusion h) (fun (_ : false = false) => ?_)
    refine And.intro ?pre ?_
    case pre =>
      repeat' refine And.intro ?_ ?_
      all_goals first | exact lenN_of (by decide) | exact lenD_of (by decide) | assumption | exact trivial | exact Nat.zero_le _ | omega
    repeat first | refine And.intro rfl ?_ | refine And.intro True.intro ?_ | refine Or.inl (And.intro rfl ?_) | refine Or.inr (And.intro rfl ?_) | refine And.intro (fun (_ : true = true) => ?_) (fun (h : true = false) => Bool.noConfusion h) | refine And.intro (fun (h : false = true) => Bool.noConfusion h) (fun (_ : false = false) => ?_)
    refine And.intro ?pre ?_
    case pre =>
      repeat' refine And.intro ?_ ?_
      all_goals first | exact lenN_of (by decide) | exact lenD_of (by decide) | assumption | exact trivial | exact Nat.zero_le _ | omega
    repeat first | refine And.intro rfl ?_ | refine And.intro True.intro ?_ | refine Or.inl (And.intro rfl ?_) | refine Or.inr (And.intro rfl ?_) | refine And.intro (fun (_ : true = true) => ?_) (fun (h : true = false) => Bool.noConfusion h) | refine And.intro (fun (h : false = true) => Bool.noConfusion h) (fun (_ : false = false) => ?_)
    rfl
  · cases h
set_option maxHeartbeats 1000000 in
theorem ok_r8Dot : Ok1 30 sPtDot := by
  refine ok_of TQt0_ok Tryz.func30 rfl (by kernel_rfl) ?_
  intro xs pre res h hp hlim
  unfold sPtDot at h
  split at h
  · rename_i s0 l0 t0 z0 k0 u0 s1 l1 t1 z1 k1 u1
    cases h
    obtain ⟨hl0, ht0, hk0, hu0, hl1, ht1, hk1, hu1⟩ := hp
    have Ll0 : Lim l0 := hlim.1.2.1
    have Lt0 : Lim t0 := hlim.1.2.2.1
    have iX0 : Szc (rq s0 l0 t0) 18001 := ⟨Sz.rq Ll0 Lt0 hl0 ht0⟩
    have Lk0 : Lim k0 := hlim.1.2.2.2.2.1
    have Lu0 : Lim u0 := hlim.1.2.2.2.2.2.1
    have iY0 : Szc (rq z0 k0 u0) 18001 := ⟨Sz.rq Lk0 Lu0 hk0 hu0⟩
    have Ll1 : Lim l1 := hlim.2.1.2.1
    have Lt1 : Lim t1 := hlim.2.1.2.2.1
    have iX1 : Szc (rq s1 l1 t1) 18001 := ⟨Sz.rq Ll1 Lt1 hl1 ht1⟩
    have Lk1 : Lim k1 := hlim.2.1.2.2.2.2.1
    have Lu1 : Lim u1 := hlim.2.1.2.2.2.2.2.1
    have iY1 : Szc (rq z1 k1 u1) 18001 := ⟨Sz.rq Lk1 Lu1 hk1 hu1⟩
    refine And.intro (Nat.le_of_ble_eq_true rfl) ?_
    repeat first | refine And.intro rfl ?_ | refine Or.inl (And.intro rfl ?_) | refine Or.inr (And.intro rfl ?_) | refine And.intro (fun (_ : true = true) => ?_) (fun (h : true = false) => Bool.noConfusion h) | refine And.intro (fun (h : false = true) => Bool.noConfusion h) (fun (_ : false = false) => ?_)
    refine And.intro ?pre ?_
    case pre =>
      repeat' refine And.intro ?_ ?_
      all_goals first | exact lenN_of (by decide) | exact lenD_of (by decide) | assumption | exact trivial | exact Nat.zero_le _ | omega
    repeat first | refine And.intro rfl ?_ | refine And.intro True.intro ?_ | refine Or.inl (And.intro rfl ?_) | refine Or.inr (And.intro rfl ?_) | refine And.intro (fun (_ : true = true) => ?_) (fun (h : true = false) => Bool.noConfusion h) | refine And.intro (fun (h : false = true) => Bool.noConfusion h) (fun (_ : false = false) => ?_)
    refine And.intro ?pre ?_
    case pre =>
      repeat' refine And.intro ?_ ?_
      all_goals first | exact lenN_of (by decide) | exact lenD_of (by decide) | assumption | exact trivial | exact Nat.zero_le _ | omega
    repeat first | refine And.intro rfl ?_ | refine And.intro True.intro ?_ | refine Or.inl (And.intro rfl ?_) | refine Or.inr (And.intro rfl ?_) | refine And.intro (fun (_ : true = true) => ?_) (fun (h : true = false) => Bool.noConfusion h) | refine And.intro (fun (h : false = true) => Bool.noConfusion h) (fun (_ : false = false) => ?_)
    refine And.intro ?pre ?_
    case pre =>
      repeat' refine And.intro ?_ ?_
      all_goals first | exact lenN_of (by decide) | exact lenD_of (by decide) | assumption | exact trivial | exact Nat.zero_le _ | omega
    repeat first | refine And.intro rfl ?_ | refine And.intro True.intro ?_ | refine Or.inl (And.intro rfl ?_) | refine Or.inr (And.intro rfl ?_) | refine And.intro (fun (_ : true = true) => ?_) (fun (h : true = false) => Bool.noConfusion h) | refine And.intro (fun (h : false = true) => Bool.noConfusion h) (fun (_ : false = false) => ?_)
    exact resCQ (by simp only [rq_cq])
  · cases h
set_option maxHeartbeats 1000000 in
theorem ok_r8Cross : Ok1 26 sPtCross := by
  refine ok_of TQt0_ok Tryz.func26 rfl (by kernel_rfl) ?_
  intro xs pre res h hp hlim
  unfold sPtCross at h
  split at h
  · rename_i s0 l0 t0 z0 k0 u0 s1 l1 t1 z1 k1 u1
    cases h
    obtain ⟨hl0, ht0, hk0, hu0, hl1, ht1, hk1, hu1⟩ := hp
    have Ll0 : Lim l0 := hlim.1.2.1
    have Lt0 : Lim t0 := hlim.1.2.2.1
    have iX0 : Szc (rq s0 l0 t0) 18001 := ⟨Sz.rq Ll0 Lt0 hl0 ht0⟩
    have Lk0 : Lim k0 := hlim.1.2.2.2.2.1
    have Lu0 : Lim u0 := hlim.1.2.2.2.2.2.1
    have iY0 : Szc (rq z0 k0 u0) 18001 := ⟨Sz.rq Lk0 Lu0 hk0 hu0⟩
    have Ll1 : Lim l1 := hlim.2.1.2.1
    have Lt1 : Lim t1 := hlim.2.1.2.2.1
    have iX1 : Szc (rq s1 l1 t1) 18001 := ⟨Sz.rq Ll1 Lt1 hl1 ht1⟩
    have Lk1 : Lim k1 := hlim.2.1.2.2.2.2.1
    have Lu1 : Lim u1 := hlim.2.1.2.2.2.2.2.1
    have iY1 : Szc (rq z1 k1 u1) 18001 := ⟨Sz.rq Lk1 Lu1 hk1 hu1⟩
    refine And.intro (Nat.le_of_ble_eq_true rfl) ?_
    repeat first | refine And.intro rfl ?_ | refine Or.inl (And.intro rfl ?_) | refine Or.inr (And.intro rfl ?_) | refine And.intro (fun (_ : true = true) => ?_) (fun (h : true = false) => Bool.noConfusion h) | refine And.intro (fun (h : false = true) => Bool.noConfusion h) (fun (_ : false = false) => ?_)
    refine And.intro ?pre ?_
    case pre =>
      repeat' refine And.intro ?_ ?_
      all_goals first | exact lenN_of (by decide) | exact lenD_of (by decide) | assumption | exact trivial | exact Nat.zero_le _ | omega
    repeat first | refine And.intro rfl ?_ | refine And.intro True.intro ?_ | refine Or.inl (And.intro rfl ?_) | refine Or.inr (And.intro rfl ?_) | refine And.intro (fun (_ : true = true) => ?_) (fun (h : true = false) => Bool.noConfusion h) | refine And.intro (fun (h : false = true) => Bool.noConfusion h) (fun (_ : false = false) => ?_)
    refine And.intro ?pre ?_
    case pre =>
      repeat' refine And.intro ?_ ?_
      all_goals first | exact lenN_of (by decide) | exact lenD_of (by decide) | assumption | exact trivial | exact Nat.zero_le _ | omega
    repeat first | refine And.intro rfl ?_ | refine And.intro True.intro ?_ | refine Or.inl (And.intro rfl ?_) | refine Or.inr (And.intro rfl ?_) | refine And.intro (fun (_ : true = true) => ?_) (fun (h : true = false) => Bool.noConfusion h) | refine And.intro (fun (h : false = true) => Bool.noConfusion h) (fun (_ : false = false) => ?_)
    refine And.intro ?pre ?_
    case pre =>
      repeat' refine And.intro ?_ ?_
      all_goals first | exact lenN_of (by decide) | exact lenD_of (by decide) | assumption | exact trivial | exact Nat.zero_le _ | omega
    repeat first | refine And.intro rfl ?_ | refine And.intro True.intro ?_ | refine Or.inl (And.intro rfl ?_) | refine Or.inr (And.intro rfl ?_) | refine And.intro (fun (_ : true = true) => ?_) (fun (h : true = false) => Bool.noConfusion h) | refine And.intro (fun (h : false = true) => Bool.noConfusion h) (fun (_ : false = false) => ?_)
    exact resCQ (by simp only [rq_cq])
  · cases h
def TQt1 : Table := [(32, sPtAdd), (27, sPtSub), (55, sPtScale), (30, sPtDot), (26, sPtCross)] ++ TQt0
theorem TQt1_ok : TabOk TQt1 := TabOk.append (TabOk.cons ok_r8Add (TabOk.cons ok_r8Sub (TabOk.cons ok_r8Scale (TabOk.cons ok_r8Dot (TabOk.cons ok_r8Cross TabOk.nil))))) TQt0_ok
set_option maxHeartbeats 1000000 in
theorem ok_r8On : Ok1 28 sPtOn := by
  refine ok_of TQt1_ok Tryz.func28 rfl (by kernel_rfl) ?_
  intro xs pre res h hp hlim
  unfold sPtOn at h
  split at h
  · rename_i s0 l0 t0 z0 k0 u0 s1 l1 t1 z1 k1 u1 s2 l2 t2
    cases h
    obtain ⟨hl0, ht0, hk0, hu0, hl1, ht1, hk1, hu1, hl2, ht2⟩ := hp
    have Ll0 : Lim l0 := hlim.1.2.1
    have Lt0 : Lim t0 := hlim.1.2.2.1
    have iX0 : Szc (rq s0 l0 t0) 4001 := ⟨Sz.rq Ll0 Lt0 hl0 ht0⟩
    have Lk0 : Lim k0 := hlim.1.2.2.2.2.1
    have Lu0 : Lim u0 := hlim.1.2.2.2.2.2.1
    have iY0 : Szc (rq z0 k0 u0) 4001 := ⟨Sz.rq Lk0 Lu0 hk0 hu0⟩
    have Ll1 : Lim l1 := hlim.2.1.2.1
    have Lt1 : Lim t1 := hlim.2.1.2.2.1
    have iX1 : Szc (rq s1 l1 t1) 4001 := ⟨Sz.rq Ll1 Lt1 hl1 ht1⟩
    have Lk1 : Lim k1 := hlim.2.1.2.2.2.2.1
    have Lu1 : Lim u1 := hlim.2.1.2.2.2.2.2.1
    have iY1 : Szc (rq z1 k1 u1) 4001 := ⟨Sz.rq Lk1 Lu1 hk1 hu1⟩
    have Ll2 : Lim l2 := hlim.2.2.1.2.1
    have Lt2 : Lim t2 := hlim.2.2.1.2.2.1
    have iX2 : Szc (rq s2 l2 t2) 4001 := ⟨Sz.rq Ll2 Lt2 hl2 ht2⟩
    refine And.intro (Nat.le_of_ble_eq_true rfl) ?_
    repeat first | refine And.intro rfl ?_ | refine Or.inl (And.intro rfl ?_) | refine Or.inr (And.intro rfl ?_) | refine And.intro (fun (_ : true = true) => ?_) (fun (h : true = false) => Bool.noConfusion h) | refine And.intro (fun (h : false = true) => Bool.noConfusion h) (fun (_ : false = false) => ?_)
    refine And.intro ?pre ?_
    case pre =>
      repeat' refine And.intro ?_ ?_
      all_goals first | exact lenN_of (by decide) | exact lenD_of (by decide) | assumption | exact trivial | exact Nat.zero_le _ | omega
    repeat first | refine And.intro rfl ?_ | refine And.intro True.intro ?_ | refine Or.inl (And.intro rfl ?_) | refine Or.inr (And.intro rfl ?_) | refine And.intro (fun (_ : true = true) => ?_) (fun (h : true = false) => Bool.noConfusion h) | refine And.intro (fun (h : false = true) => Bool.noConfusion h) (fun (_ : false = false) => ?_)
    refine And.intro ?pre ?_
    case pre =>
      repeat' refine And.intro ?_ ?_
      all_goals first | exact lenN_of (by decide) | exact lenD_of (by decide) | assumption | exact trivial | exact Nat.zero_le _ | omega
    repeat first | refine And.intro rfl ?_ | refine And.intro True.intro ?_ | refine Or.inl (And.intro rfl ?_) | refine Or.inr (And.intro rfl ?_) | refine And.intro (fun (_ : true = true) => ?_) (fun (h : true = false) => Bool.noConfusion h) | refine And.intro (fun (h : false = true) => Bool.noConfusion h) (fun (_ : false = false) => ?_)
    refine And.intro ?pre ?_
    case pre =>
      repeat' refine And.intro ?_ ?_
      all_goals first | exact lenN_of (by decide) | exact lenD_of (by decide) | assumption | exact trivial | exact Nat.zero_le _ | omega
    repeat first | refine And.intro rfl ?_ | refine And.intro True.intro ?_ | refine Or.inl (And.intro rfl ?_) | refine Or.inr (And.intro rfl ?_) | refine And.intro (fun (_ : true = true) => ?_) (fun (h : true = false) => Bool.noConfusion h) | refine And.intro (fun (h : false = true) => Bool.noConfusion h) (fun (_ : false = false) => ?_)
    exact resPt (by simp only [rq_cq]) (by simp only [rq_cq])
  · cases h

end Go.Gm
