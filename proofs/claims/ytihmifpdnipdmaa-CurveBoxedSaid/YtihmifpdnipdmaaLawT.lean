/-
  LawT: several texts in one file. Plain theorems; no condition.
-/
import Derived.Test.YtihmifpdnipdmaaRefM
import Derived.Test.YtihmifpdnipdmaaPt
import Derived.Test.YtihmifpdnipdmaaLawS
/-
  The points of the reference. Plain theorems; no condition.
-/
set_option linter.all false
namespace Go.Gm
open Go.Proofs

def TQt0 : Table := [(127, sRatAdd), (128, sRatSub), (129, sRatMul), (100, sRatCmp), (104, sRatNeg), (103, sRatNorm), (125, sRatOf)]
theorem TQt0_ok : TabOk TQt0 := (TabOk.cons ok_kAdd (TabOk.cons ok_kSub (TabOk.cons ok_kMul (TabOk.cons ok_kCmp (TabOk.cons ok_kNeg (TabOk.cons ok_kNorm (TabOk.cons ok_kOf TabOk.nil)))))))
set_option maxHeartbeats 1000000 in
theorem ok_r8Add : Ok1 78 sPtAdd := by
  refine ok_of TQt0_ok Try.func78 rfl (by kernel_rfl) ?_
  intro xs pre res h hp hlim
  unfold sPtAdd at h
  split at h
  · rename_i s0 l0 t0 z0 k0 u0 s1 l1 t1 z1 k1 u1
    cases h
    obtain ⟨hl0, ht0, hk0, hu0, hl1, ht1, hk1, hu1⟩ := hp
    have Ll0 : Lim l0 := hlim.1.2.1
    have Lt0 : Lim t0 := hlim.1.2.2.1
    have iX0 : Szc (rq s0 l0 t0) 39001 := ⟨Sz.rq Ll0 Lt0 hl0 ht0⟩
    have Lk0 : Lim k0 := hlim.1.2.2.2.2.1
    have Lu0 : Lim u0 := hlim.1.2.2.2.2.2.1
    have iY0 : Szc (rq z0 k0 u0) 39001 := ⟨Sz.rq Lk0 Lu0 hk0 hu0⟩
    have Ll1 : Lim l1 := hlim.2.1.2.1
    have Lt1 : Lim t1 := hlim.2.1.2.2.1
    have iX1 : Szc (rq s1 l1 t1) 39001 := ⟨Sz.rq Ll1 Lt1 hl1 ht1⟩
    have Lk1 : Lim k1 := hlim.2.1.2.2.2.2.1
    have Lu1 : Lim u1 := hlim.2.1.2.2.2.2.2.1
    have iY1 : Szc (rq z1 k1 u1) 39001 := ⟨Sz.rq Lk1 Lu1 hk1 hu1⟩
    refine And.intro (Nat.le_of_ble_eq_true rfl) ?_
    repeat first | refine And.intro rfl ?_ | refine Or.inl (And.intro rfl ?_) | refine Or.inr (And.intro rfl ?_) | refine And.intro (fun (_ : true = true) => ?_) (fun (h : true = false) => Bool.noConfusion h) | refine And.intro (fun (h : false = true) => Bool.noConfusion h) (fun (_ : false = false) => ?_)
    refine And.intro ?pre ?_
    case pre =>
      repeat' refine And.intro ?_ ?_
      all_goals first | exact lenN_of (by decide) | exact lenD_of (by decide) | assumption | exact trivial | exact Nat.zero_le _ | omega
    repeat first | refine And.intro rfl ?_ | refine And.intro True.intro ?_ | refine Or.inl (And.intro rfl ?_) | refine Or.inr (And.intro rfl ?_) | refine And.intro (fun (_ : true = true) => ?_) (fun (h : true = false) => Bool.noConfusion h) | refine And.intro (fun (h : false = true) => Bool.noConfusion h) (fun (_ : false = false) => ?_)
    refine And.intro ?pre ?_
    case pre =>
      repeat' refine And.intro ?_ ?_
      all_goals first | exact lenN_of (by decide) | exact lenD_of (by decide) | assumption | exact trivial | exact Nat.zero_le _ | omega
    repeat first | refine And.intro rfl ?_ | refine And.intro True.intro ?_ | refine Or.inl (And.intro rfl ?_) | refine Or.inr (And.intro rfl ?_) | refine And.intro (fun (_ : true = true) => ?_) (fun (h : true = false) => Bool.noConfusion h) | refine And.intro (fun (h : false = true) => Bool.noConfusion h) (fun (_ : false = false) => ?_)
    rfl
  · cases h
set_option maxHeartbeats 1000000 in
theorem ok_r8Sub : Ok1 79 sPtSub := by
  refine ok_of TQt0_ok Try.func79 rfl (by kernel_rfl) ?_
  intro xs pre res h hp hlim
  unfold sPtSub at h
  split at h
  · rename_i s0 l0 t0 z0 k0 u0 s1 l1 t1 z1 k1 u1
    cases h
    obtain ⟨hl0, ht0, hk0, hu0, hl1, ht1, hk1, hu1⟩ := hp
    have Ll0 : Lim l0 := hlim.1.2.1
    have Lt0 : Lim t0 := hlim.1.2.2.1
    have iX0 : Szc (rq s0 l0 t0) 39001 := ⟨Sz.rq Ll0 Lt0 hl0 ht0⟩
    have Lk0 : Lim k0 := hlim.1.2.2.2.2.1
    have Lu0 : Lim u0 := hlim.1.2.2.2.2.2.1
    have iY0 : Szc (rq z0 k0 u0) 39001 := ⟨Sz.rq Lk0 Lu0 hk0 hu0⟩
    have Ll1 : Lim l1 := hlim.2.1.2.1
    have Lt1 : Lim t1 := hlim.2.1.2.2.1
    have iX1 : Szc (rq s1 l1 t1) 39001 := ⟨Sz.rq Ll1 Lt1 hl1 ht1⟩
    have Lk1 : Lim k1 := hlim.2.1.2.2.2.2.1
    have Lu1 : Lim u1 := hlim.2.1.2.2.2.2.2.1
    have iY1 : Szc (rq z1 k1 u1) 39001 := ⟨Sz.rq Lk1 Lu1 hk1 hu1⟩
    refine And.intro (Nat.le_of_ble_eq_true rfl) ?_
    repeat first | refine And.intro rfl ?_ | refine Or.inl (And.intro rfl ?_) | refine Or.inr (And.intro rfl ?_) | refine And.intro (fun (_ : true = true) => ?_) (fun (h : true = false) => Bool.noConfusion h) | refine And.intro (fun (h : false = true) => Bool.noConfusion h) (fun (_ : false = false) => ?_)
    refine And.intro ?pre ?_
    case pre =>
      repeat' refine And.intro ?_ ?_
      all_goals first | exact lenN_of (by decide) | exact lenD_of (by decide) | assumption | exact trivial | exact Nat.zero_le _ | omega
    repeat first | refine And.intro rfl ?_ | refine And.intro True.intro ?_ | refine Or.inl (And.intro rfl ?_) | refine Or.inr (And.intro rfl ?_) | refine And.intro (fun (_ : true = true) => ?_) (fun (h : true = false) => Bool.noConfusion h) | refine And.intro (fun (h : false = true) => Bool.noConfusion h) (fun (_ : false = false) => ?_)
    refine And.intro ?pre ?_
    case pre =>
      repeat' refine And.intro ?_ ?_
      all_goals first | exact lenN_of (by decide) | exact lenD_of (by decide) | assumption | exact trivial | exact Nat.zero_le _ | omega
    repeat first | refine And.intro rfl ?_ | refine And.intro True.intro ?_ | refine Or.inl (And.intro rfl ?_) | refine Or.inr (And.intro rfl ?_) | refine And.intro (fun (_ : true = true) => ?_) (fun (h : true = false) => Bool.noConfusion h) | refine And.intro (fun (h : false = true) => Bool.noConfusion h) (fun (_ : false = false) => ?_)
    rfl
  · cases h
set_option maxHeartbeats 1000000 in
theorem ok_r8Scale : Ok1 81 sPtScale := by
  refine ok_of TQt0_ok Try.func81 rfl (by kernel_rfl) ?_
  intro xs pre res h hp hlim
  unfold sPtScale at h
  split at h
  · rename_i s0 l0 t0 z0 k0 u0 s1 l1 t1
    cases h
    obtain ⟨hl0, ht0, hk0, hu0, hl1, ht1⟩ := hp
    have Ll0 : Lim l0 := hlim.1.2.1
    have Lt0 : Lim t0 := hlim.1.2.2.1
    have iX0 : Szc (rq s0 l0 t0) 39001 := ⟨Sz.rq Ll0 Lt0 hl0 ht0⟩
    have Lk0 : Lim k0 := hlim.1.2.2.2.2.1
    have Lu0 : Lim u0 := hlim.1.2.2.2.2.2.1
    have iY0 : Szc (rq z0 k0 u0) 39001 := ⟨Sz.rq Lk0 Lu0 hk0 hu0⟩
    have Ll1 : Lim l1 := hlim.2.1.2.1
    have Lt1 : Lim t1 := hlim.2.1.2.2.1
    have iX1 : Szc (rq s1 l1 t1) 39001 := ⟨Sz.rq Ll1 Lt1 hl1 ht1⟩
    refine And.intro (Nat.le_of_ble_eq_true rfl) ?_
    repeat first | refine And.intro rfl ?_ | refine Or.inl (And.intro rfl ?_) | refine Or.inr (And.intro rfl ?_) | refine And.intro (fun (_ : true = true) => ?_) (fun (h : true = false) => Bool.noConfusion h) | refine And.intro (fun (h : false = true) => Bool.noConfusion h) (fun (_ : false = false) => ?_)
    refine And.intro ?pre ?_
    case pre =>
      repeat' refine And.intro ?_ ?_
      all_goals first | exact lenN_of (by decide) | exact lenD_of (by decide) | assumption | exact trivial | exact Nat.zero_le _ | omega
    repeat first | refine And.intro rfl ?_ | refine And.intro True.intro ?_ | refine Or.inl (And.intro rfl ?_) | refine Or.inr (And.intro rfl ?_) | refine And.intro (fun (_ : true = true) => ?_) (fun (h : true = false) => Bool.noConfusion h) | refine And.intro (fun (h : false = true) => Bool.noConfusion h) (fun (_ : false = false) => ?_)
    refine And.intro ?pre ?_
    case pre =>
      repeat' refine And.intro ?_ ?_
      all_goals first | exact lenN_of (by decide) | exact lenD_of (by decide) | assumption | exact trivial | exact Nat.zero_le _ | omega
    repeat first | refine And.intro rfl ?_ | refine And.intro True.intro ?_ | refine Or.inl (And.intro rfl ?_) | refine Or.inr (And.intro rfl ?_) | refine And.intro (fun (_ : true = true) => ?_) (fun (h : true = false) => Bool.noConfusion h) | refine And.intro (fun (h : false = true) => Bool.noConfusion h) (fun (_ : false = false) => ?_)
    rfl
  · cases h
set_option maxHeartbeats 1000000 in
theorem ok_r8Dot : Ok1 85 sPtDot := by
  refine ok_of TQt0_ok Try.func85 rfl (by kernel_rfl) ?_
  intro xs pre res h hp hlim
  unfold sPtDot at h
  split at h
  · rename_i s0 l0 t0 z0 k0 u0 s1 l1 t1 z1 k1 u1
    cases h
    obtain ⟨hl0, ht0, hk0, hu0, hl1, ht1, hk1, hu1⟩ := hp
    have Ll0 : Lim l0 := hlim.1.2.1
    have Lt0 : Lim t0 := hlim.1.2.2.1
    have iX0 : Szc (rq s0 l0 t0) 18001 := ⟨Sz.rq Ll0 Lt0 hl0 ht0⟩
    have Lk0 : Lim k0 := hlim.1.2.2.2.2.1
    have Lu0 : Lim u0 := hlim.1.2.2.2.2.2.1
    have iY0 : Szc (rq z0 k0 u0) 18001 := ⟨Sz.rq Lk0 Lu0 hk0 hu0⟩
    have Ll1 : Lim l1 := hlim.2.1.2.1
    have Lt1 : Lim t1 := hlim.2.1.2.2.1
    have iX1 : Szc (rq s1 l1 t1) 18001 := ⟨Sz.rq Ll1 Lt1 hl1 ht1⟩
    have Lk1 : Lim k1 := hlim.2.1.2.2.2.2.1
    have Lu1 : Lim u1 := hlim.2.1.2.2.2.2.2.1
    have iY1 : Szc (rq z1 k1 u1) 18001 := ⟨Sz.rq Lk1 Lu1 hk1 hu1⟩
    refine And.intro (Nat.le_of_ble_eq_true rfl) ?_
    repeat first | refine And.intro rfl ?_ | refine Or.inl (And.intro rfl ?_) | refine Or.inr (And.intro rfl ?_) | refine And.intro (fun (_ : true = true) => ?_) (fun (h : true = false) => Bool.noConfusion h) | refine And.intro (fun (h : false = true) => Bool.noConfusion h) (fun (_ : false = false) => ?_)
    refine And.intro ?pre ?_
    case pre =>
      repeat' refine And.intro ?_ ?_
      all_goals first | exact lenN_of (by decide) | exact lenD_of (by decide) | assumption | exact trivial | exact Nat.zero_le _ | omega
    repeat first | refine And.intro rfl ?_ | refine And.intro True.intro ?_ | refine Or.inl (And.intro rfl ?_) | refine Or.inr (And.intro rfl ?_) | refine And.intro (fun (_ : true = true) => ?_) (fun (h : true = false) => Bool.noConfusion h) | refine And.intro (fun (h : false = true) => Bool.noConfusion h) (fun (_ : false = false) => ?_)
    refine And.intro ?pre ?_
    case pre =>
      repeat' refine And.intro ?_ ?_
      all_goals first | exact lenN_of (by decide) | exact lenD_of (by decide) | assumption | exact trivial | exact Nat.zero_le _ | omega
    repeat first | refine And.intro rfl ?_ | refine And.intro True.intro ?_ | refine Or.inl (And.intro rfl ?_) | refine Or.inr (And.intro rfl ?_) | refine And.intro (fun (_ : true = true) => ?_) (fun (h : true = false) => Bool.noConfusion h) | refine And.intro (fun (h : false = true) => Bool.noConfusion h) (fun (_ : false = false) => ?_)
    refine And.intro ?pre ?_
    case pre =>
      repeat' refine And.intro ?_ ?_
      all_goals first | exact lenN_of (by decide) | exact lenD_of (by decide) | assumption | exact trivial | exact Nat.zero_le _ | omega
    repeat first | refine And.intro rfl ?_ | refine And.intro True.intro ?_ | refine Or.inl (And.intro rfl ?_) | refine Or.inr (And.intro rfl ?_) | refine And.intro (fun (_ : true = true) => ?_) (fun (h : true = false) => Bool.noConfusion h) | refine And.intro (fun (h : false = true) => Bool.noConfusion h) (fun (_ : false = false) => ?_)
    exact resCQ (by simp only [rq_cq])
  · cases h
set_option maxHeartbeats 1000000 in
theorem ok_r8Cross : Ok1 86 sPtCross := by
  refine ok_of TQt0_ok Try.func86 rfl (by kernel_rfl) ?_
  intro xs pre res h hp hlim
  unfold sPtCross at h
  split at h
  · rename_i s0 l0 t0 z0 k0 u0 s1 l1 t1 z1 k1 u1
    cases h
    obtain ⟨hl0, ht0, hk0, hu0, hl1, ht1, hk1, hu1⟩ := hp
    have Ll0 : Lim l0 := hlim.1.2.1
    have Lt0 : Lim t0 := hlim.1.2.2.1
    have iX0 : Szc (rq s0 l0 t0) 18001 := ⟨Sz.rq Ll0 Lt0 hl0 ht0⟩
    have Lk0 : Lim k0 := hlim.1.2.2.2.2.1
    have Lu0 : Lim u0 := hlim.1.2.2.2.2.2.1
    have iY0 : Szc (rq z0 k0 u0) 18001 := ⟨Sz.rq Lk0 Lu0 hk0 hu0⟩
    have Ll1 : Lim l1 := hlim.2.1.2.1
    have Lt1 : Lim t1 := hlim.2.1.2.2.1
    have iX1 : Szc (rq s1 l1 t1) 18001 := ⟨Sz.rq Ll1 Lt1 hl1 ht1⟩
    have Lk1 : Lim k1 := hlim.2.1.2.2.2.2.1
    have Lu1 : Lim u1 := hlim.2.1.2.2.2.2.2.1
    have iY1 : Szc (rq z1 k1 u1) 18001 := ⟨Sz.rq Lk1 Lu1 hk1 hu1⟩
    refine And.intro (Nat.le_of_ble_eq_true rfl) ?_
    repeat first | refine And.intro rfl ?_ | refine Or.inl (And.intro rfl ?_) | refine Or.inr (And.intro rfl ?_) | refine And.intro (fun (_ : true = true) => ?_) (fun (h : true = false) => Bool.noConfusion h) | refine And.intro (fun (h : false = true) => Bool.noConfusion h) (fun (_ : false = false) => ?_)
    refine And.intro ?pre ?_
    case pre =>
      repeat' refine And.intro ?_ ?_
      all_goals first | exact lenN_of (by decide) | exact lenD_of (by decide) | assumption | exact trivial | exact Nat.zero_le _ | omega
    repeat first | refine And.intro rfl ?_ | refine And.intro True.intro ?_ | refine Or.inl (And.intro rfl ?_) | refine Or.inr (And.intro rfl ?_) | refine And.intro (fun (_ : true = true) => ?_) (fun (h : true = false) => Bool.noConfusion h) | refine And.intro (fun (h : false = true) => Bool.noConfusion h) (fun (_ : false = false) => ?_)
    refine And.intro ?pre ?_
    case pre =>
      repeat' refine And.intro ?_ ?_
      all_goals first | exact lenN_of (by decide) | exact lenD_of (by decide) | assumption | exact trivial | exact Nat.zero_le _ | omega
    repeat first | refine And.intro rfl ?_ | refine And.intro True.intro ?_ | refine Or.inl (And.intro rfl ?_) | refine Or.inr (And.intro rfl ?_) | refine And.intro (fun (_ : true = true) => ?_) (fun (h : true = false) => Bool.noConfusion h) | refine And.intro (fun (h : false = true) => Bool.noConfusion h) (fun (_ : false = false) => ?_)
    refine And.intro ?pre ?_
    case pre =>
      repeat' refine And.intro ?_ ?_
      all_goals first | exact lenN_of (by decide) | exact lenD_of (by decide) | assumption | exact trivial | exact Nat.zero_le _ | omega
    repeat first | refine And.intro rfl ?_ | refine And.intro True.intro ?_ | refine Or.inl (And.intro rfl ?_) | refine Or.inr (And.intro rfl ?_) | refine And.intro (fun (_ : true = true) => ?_) (fun (h : true = false) => Bool.noConfusion h) | refine And.intro (fun (h : false = true) => Bool.noConfusion h) (fun (_ : false = false) => ?_)
    exact resCQ (by simp only [rq_cq])
  · cases h
def TQt1 : Table := [(78, sPtAdd), (79, sPtSub), (81, sPtScale), (85, sPtDot), (86, sPtCross)] ++ TQt0
theorem TQt1_ok : TabOk TQt1 := TabOk.append (TabOk.cons ok_r8Add (TabOk.cons ok_r8Sub (TabOk.cons ok_r8Scale (TabOk.cons ok_r8Dot (TabOk.cons ok_r8Cross TabOk.nil))))) TQt0_ok
set_option maxHeartbeats 1000000 in
theorem ok_r8On : Ok1 70 sPtOn := by
  refine ok_of TQt1_ok Try.func70 rfl (by kernel_rfl) ?_
  intro xs pre res h hp hlim
  unfold sPtOn at h
  split at h
  · rename_i s0 l0 t0 z0 k0 u0 s1 l1 t1 z1 k1 u1 s2 l2 t2
    cases h
    obtain ⟨hl0, ht0, hk0, hu0, hl1, ht1, hk1, hu1, hl2, ht2⟩ := hp
    have Ll0 : Lim l0 := hlim.1.2.1
    have Lt0 : Lim t0 := hlim.1.2.2.1
    have iX0 : Szc (rq s0 l0 t0) 4001 := ⟨Sz.rq Ll0 Lt0 hl0 ht0⟩
    have Lk0 : Lim k0 := hlim.1.2.2.2.2.1
    have Lu0 : Lim u0 := hlim.1.2.2.2.2.2.1
    have iY0 : Szc (rq z0 k0 u0) 4001 := ⟨Sz.rq Lk0 Lu0 hk0 hu0⟩
    have Ll1 : Lim l1 := hlim.2.1.2.1
    have Lt1 : Lim t1 := hlim.2.1.2.2.1
    have iX1 : Szc (rq s1 l1 t1) 4001 := ⟨Sz.rq Ll1 Lt1 hl1 ht1⟩
    have Lk1 : Lim k1 := hlim.2.1.2.2.2.2.1
    have Lu1 : Lim u1 := hlim.2.1.2.2.2.2.2.1
    have iY1 : Szc (rq z1 k1 u1) 4001 := ⟨Sz.rq Lk1 Lu1 hk1 hu1⟩
    have Ll2 : Lim l2 := hlim.2.2.1.2.1
    have Lt2 : Lim t2 := hlim.2.2.1.2.2.1
    have iX2 : Szc (rq s2 l2 t2) 4001 := ⟨Sz.rq Ll2 Lt2 hl2 ht2⟩
    refine And.intro (Nat.le_of_ble_eq_true rfl) ?_
    repeat first | refine And.intro rfl ?_ | refine Or.inl (And.intro rfl ?_) | refine Or.inr (And.intro rfl ?_) | refine And.intro (fun (_ : true = true) => ?_) (fun (h : true = false) => Bool.noConfusion h) | refine And.intro (fun (h : false = true) => Bool.noConfusion h) (fun (_ : false = false) => ?_)
    refine And.intro ?pre ?_
    case pre =>
      repeat' refine And.intro ?_ ?_
      all_goals first | exact lenN_of (by decide) | exact lenD_of (by decide) | assumption | exact trivial | exact Nat.zero_le _ | omega
    repeat first | refine And.intro rfl ?_ | refine And.intro True.intro ?_ | refine Or.inl (And.intro rfl ?_) | refine Or.inr (And.intro rfl ?_) | refine And.intro (fun (_ : true = true) => ?_) (fun (h : true = false) => Bool.noConfusion h) | refine And.intro (fun (h : false = true) => Bool.noConfusion h) (fun (_ : false = false) => ?_)
    refine And.intro ?pre ?_
    case pre =>
      repeat' refine And.intro ?_ ?_
      all_goals first | exact lenN_of (by decide) | exact lenD_of (by decide) | assumption | exact trivial | exact Nat.zero_le _ | omega
    repeat first | refine And.intro rfl ?_ | refine And.intro True.intro ?_ | refine Or.inl (And.intro rfl ?_) | refine Or.inr (And.intro rfl ?_) | refine And.intro (fun (_ : true = true) => ?_) (fun (h : true = false) => Bool.noConfusion h) | refine And.intro (fun (h : false = true) => Bool.noConfusion h) (fun (_ : false = false) => ?_)
    refine And.intro ?pre ?_
    case pre =>
      repeat' refine And.intro ?_ ?_
      all_goals first | exact lenN_of (by decide) | exact lenD_of (by decide) | assumption | exact trivial | exact Nat.zero_le _ | omega
    repeat first | refine And.intro rfl ?_ | refine And.intro True.intro ?_ | refine Or.inl (And.intro rfl ?_) | refine Or.inr (And.intro rfl ?_) | refine And.intro (fun (_ : true = true) => ?_) (fun (h : true = false) => Bool.noConfusion h) | refine And.intro (fun (h : false = true) => Bool.noConfusion h) (fun (_ : false = false) => ?_)
    exact resPt (by simp only [rq_cq]) (by simp only [rq_cq])
  · cases h

end Go.Gm

/-
  The curves of the reference: valid, norm, divide, At, Flatten. Plain theorems; no condition.
-/
namespace Go.Gm
open Go.Proofs

def TY0 : Table := [(70, sPtOn), (103, sRatNorm), (125, sRatOf)]
theorem TY0_ok : TabOk TY0 := TabOk.cons ok_r8On (TabOk.cons ok_kNorm (TabOk.cons ok_kOf TabOk.nil))

theorem ok_yValid : Ok1 135 sValid := by
  refine ok_of TY0_ok Try.func135 rfl (by kernel_rfl) ?_
  intro xs pre res h hp hlim
  unfold sValid at h
  split at h
  · rename_i c
    cases h
    refine And.intro (Nat.le_of_ble_eq_true rfl) ?_
    repeat first | refine And.intro rfl ?_ | refine Or.inl (And.intro rfl ?_) | refine Or.inr (And.intro rfl ?_) | refine And.intro (fun (_ : true = true) => ?_) (fun (h : true = false) => Bool.noConfusion h) | refine And.intro (fun (h : false = true) => Bool.noConfusion h) (fun (_ : false = false) => ?_)
    by_cases h2 : 2 ≤ c.length
    · refine Or.inl (And.intro (decide_eq_true (show (c.length : Int) ≥ 2 by omega)) ?_)
      repeat first | refine And.intro rfl ?_ | refine Or.inl (And.intro rfl ?_) | refine Or.inr (And.intro rfl ?_) | refine And.intro (fun (_ : true = true) => ?_) (fun (h : true = false) => Bool.noConfusion h) | refine And.intro (fun (h : false = true) => Bool.noConfusion h) (fun (_ : false = false) => ?_)
      refine resB ?_
      by_cases h4 : c.length ≤ 4
      · rw [decide_eq_true (show (c.length : Int) ≤ 4 by omega), decide_eq_true ⟨h2, h4⟩]
      · rw [decide_eq_false (show ¬ (c.length : Int) ≤ 4 by omega), decide_eq_false (fun h => h4 h.2)]
    · refine Or.inr (And.intro (decide_eq_false (show ¬ (c.length : Int) ≥ 2 by omega)) ?_)
      repeat first | refine And.intro rfl ?_ | refine Or.inl (And.intro rfl ?_) | refine Or.inr (And.intro rfl ?_) | refine And.intro (fun (_ : true = true) => ?_) (fun (h : true = false) => Bool.noConfusion h) | refine And.intro (fun (h : false = true) => Bool.noConfusion h) (fun (_ : false = false) => ?_)
      exact resB (decide_eq_false (fun h => h2 h.1)).symm
  · cases h

def sNorm9 : List RV → Option (Prop × Res)
  | [.one (.sl 6 c)] => some (ShP 60000 c ∧ c.length ≤ 1000, .r (.one (.sl 6 (nB (valsOf c)))))
  | _ => none

set_option maxHeartbeats 1000000 in
theorem ok_yNorm : Ok1 136 sNorm9 := by
  refine ok_of TY0_ok Try.func136 rfl (by kernel_rfl) ?_
  intro xs pre res h hp hlim
  unfold sNorm9 at h
  split at h
  · rename_i c
    cases h
    obtain ⟨hsh, hp1⟩ := hp
    obtain ⟨ps, rfl, hps, hpl⟩ := sh_le hsh
    rw [← hpl] at hp1
    rw [valsOf_B]
    obtain ⟨vs, hvs⟩ : ∃ vs, vs = ps.map PR.v := ⟨_, rfl⟩
    have hvl : vs.length = ps.length := by rw [hvs, List.length_map]
    rw [← hvs]
    refine And.intro (Nat.le_of_ble_eq_true rfl) ?_
    repeat first | refine And.intro rfl ?_ | refine Or.inl (And.intro rfl ?_) | refine Or.inr (And.intro rfl ?_) | refine And.intro (fun (_ : true = true) => ?_) (fun (h : true = false) => Bool.noConfusion h) | refine And.intro (fun (h : false = true) => Bool.noConfusion h) (fun (_ : false = false) => ?_)
    repeat first | refine And.intro rfl ?_ | refine Or.inl (And.intro rfl ?_) | refine Or.inr (And.intro rfl ?_) | refine And.intro (fun (_ : true = true) => ?_) (fun (h : true = false) => Bool.noConfusion h) | refine And.intro (fun (h : false = true) => Bool.noConfusion h) (fun (_ : false = false) => ?_)
    refine Exists.intro {k : Nat // k ≤ ps.length} (Exists.intro (fun k => ⟨[(0, .one (.sl 6 (ps.map ptB))), (3, .own 0), (4, .val (.int .i64 (k.1 : Nat)))], ⟨[], [.s 38 6 (nB (vs.take k.1))]⟩⟩) (Exists.intro (fun k => ps.length - k.1) (Exists.intro ⟨0, by omega⟩ (And.intro ?_ ?_))))
    · repeat first | exact trivial | refine And.intro rfl ?_ | refine And.intro trivial ?_ | refine And.intro (And.intro rfl trivial) ?_ | refine And.intro (And.intro rfl (And.intro rfl trivial)) ?_
    · rintro ⟨k, hk⟩
      repeat first | refine And.intro rfl ?_ | refine Or.inl (And.intro rfl ?_) | refine Or.inr (And.intro rfl ?_) | refine And.intro (fun (_ : true = true) => ?_) (fun (h : true = false) => Bool.noConfusion h) | refine And.intro (fun (h : false = true) => Bool.noConfusion h) (fun (_ : false = false) => ?_)
      refine And.intro (fun hc => ?_) (fun hc => ?_)
      · have hk' : (k : Int) < (((ps.map ptB).length : Nat) : Int) := of_decide_eq_true hc
        rw [List.length_map] at hk'
        have g1 : (ps.map ptB).getD (k : Int).toNat [] = ptB (ps.getD k PR.zero) := getD_ptB ps k (by omega)
        have k1 := (hps _ (getD_mem' ps k PR.zero (by omega))).mono (show 60000 ≤ 80000 by decide)
        have e1 : vs.getD k (0, 0) = (ps.getD k PR.zero).v := by rw [hvs, getD_v ps k (by omega)]
        generalize ps.getD k PR.zero = p at g1 k1 e1
        repeat first | refine And.intro rfl ?_ | refine Or.inl (And.intro rfl ?_) | refine Or.inr (And.intro rfl ?_) | refine And.intro (fun (_ : true = true) => ?_) (fun (h : true = false) => Bool.noConfusion h) | refine And.intro (fun (h : false = true) => Bool.noConfusion h) (fun (_ : false = false) => ?_)
        refine And.intro (show 0 ≤ (k : Int) ∧ (k : Int) < (((ps.map ptB).length : Nat) : Int) by rw [List.length_map]; omega) ?_
        rw [g1]
        repeat first | refine And.intro rfl ?_ | refine Or.inl (And.intro rfl ?_) | refine Or.inr (And.intro rfl ?_) | refine And.intro (fun (_ : true = true) => ?_) (fun (h : true = false) => Bool.noConfusion h) | refine And.intro (fun (h : false = true) => Bool.noConfusion h) (fun (_ : false = false) => ?_)
        refine And.intro (show p.l.length ≤ 80000 ∧ p.t.length ≤ 80000 ∧ DivFit (nv p.t) from ⟨k1.1, k1.2.1, trivial⟩) ?_
        repeat first | refine And.intro rfl ?_ | refine Or.inl (And.intro rfl ?_) | refine Or.inr (And.intro rfl ?_) | refine And.intro (fun (_ : true = true) => ?_) (fun (h : true = false) => Bool.noConfusion h) | refine And.intro (fun (h : false = true) => Bool.noConfusion h) (fun (_ : false = false) => ?_)
        refine And.intro (show 0 ≤ (k : Int) ∧ (k : Int) < (((ps.map ptB).length : Nat) : Int) by rw [List.length_map]; omega) ?_
        rw [g1]
        repeat first | refine And.intro rfl ?_ | refine Or.inl (And.intro rfl ?_) | refine Or.inr (And.intro rfl ?_) | refine And.intro (fun (_ : true = true) => ?_) (fun (h : true = false) => Bool.noConfusion h) | refine And.intro (fun (h : false = true) => Bool.noConfusion h) (fun (_ : false = false) => ?_)
        refine And.intro (show p.k.length ≤ 80000 ∧ p.u.length ≤ 80000 ∧ DivFit (nv p.u) from ⟨k1.2.2.1, k1.2.2.2, trivial⟩) ?_
        repeat first | refine And.intro rfl ?_ | refine Or.inl (And.intro rfl ?_) | refine Or.inr (And.intro rfl ?_) | refine And.intro (fun (_ : true = true) => ?_) (fun (h : true = false) => Bool.noConfusion h) | refine And.intro (fun (h : false = true) => Bool.noConfusion h) (fun (_ : false = false) => ?_)
        refine And.intro (show (nB (vs.take k)).length + 1 ≤ 1000000 by rw [nB_len, List.length_take]; omega) ?_
        repeat first | refine And.intro rfl ?_ | refine Or.inl (And.intro rfl ?_) | refine Or.inr (And.intro rfl ?_) | refine And.intro (fun (_ : true = true) => ?_) (fun (h : true = false) => Bool.noConfusion h) | refine And.intro (fun (h : false = true) => Bool.noConfusion h) (fun (_ : false = false) => ?_)
        refine Exists.intro ⟨k + 1, by omega⟩ (And.intro (show ps.length - (k + 1) < ps.length - k by omega) ?_)
        repeat first | exact trivial | refine And.intro rfl ?_ | refine And.intro trivial ?_ | refine And.intro (And.intro rfl trivial) ?_ | refine And.intro (And.intro rfl (And.intro rfl trivial)) ?_
        refine And.intro (And.intro (rwSl ?_) trivial) ?_
        · rw [nB_snoc _ _ (by omega), e1]
          rfl
        · repeat first | exact trivial | refine And.intro rfl ?_ | refine And.intro trivial ?_ | refine And.intro (And.intro rfl trivial) ?_ | refine And.intro (And.intro rfl (And.intro rfl trivial)) ?_
          exact And.intro (avI (show IntKind.i64.wrap ((k : Int) + 1) = ((k + 1 : Nat) : Int) by rw [wI (by omega) (by omega)]; omega)) trivial
      · have hk' : ¬ (k : Int) < (((ps.map ptB).length : Nat) : Int) := of_decide_eq_false hc
        rw [List.length_map] at hk'
        repeat first | refine And.intro rfl ?_ | refine Or.inl (And.intro rfl ?_) | refine Or.inr (And.intro rfl ?_) | refine And.intro (fun (_ : true = true) => ?_) (fun (h : true = false) => Bool.noConfusion h) | refine And.intro (fun (h : false = true) => Bool.noConfusion h) (fun (_ : false = false) => ?_)
        refine resSl ?_
        show nB (vs.take k) = nB vs
        rw [List.take_of_length_le (by omega)]
  · cases h

def sDivide9 : List RV → Option (Prop × Res)
  | [.one (.sl 6 c), .agg [.b (.val (.bool s)), .b (.nat l), .b (.nat t)]] => some (ShP 4000 c ∧ c.length ≤ 1000 ∧ l.length ≤ 4000 ∧ t.length ≤ 4000, .r (.one (.sl 6 (nB (divQ (valsOf c) (rq s l t))))))
  | _ => none

set_option maxHeartbeats 1000000 in
theorem ok_yDivide : Ok1 137 sDivide9 := by
  refine ok_of TY0_ok Try.func137 rfl (by kernel_rfl) ?_
  intro xs pre res h hp hlim
  unfold sDivide9 at h
  split at h
  · rename_i c s l t
    cases h
    obtain ⟨hsh, hp1, hp2, hp3⟩ := hp
    obtain ⟨ps, rfl, hps, hpl⟩ := sh_le hsh
    rw [← hpl] at hp1
    rw [valsOf_B]
    obtain ⟨vs, hvs⟩ : ∃ vs, vs = ps.map PR.v := ⟨_, rfl⟩
    have hvl : vs.length = ps.length := by rw [hvs, List.length_map]
    rw [← hvs]
    have hdl := divQ_len vs (rq s l t)
    have hat : ∀ k, k + 1 < ps.length → (divQ vs (rq s l t)).getD k (0, 0) = onP (ps.getD k PR.zero).v (ps.getD (k + 1) PR.zero).v (rq s l t) := by
      intro k hk
      rw [divQ_get _ _ _ _ (by omega), hvs, getD_v ps k (by omega), getD_v ps (k + 1) (by omega)]
    obtain ⟨D, hD⟩ : ∃ D, D = divQ vs (rq s l t) := ⟨_, rfl⟩
    rw [← hD] at hdl hat ⊢
    refine And.intro (Nat.le_of_ble_eq_true rfl) ?_
    repeat first | refine And.intro rfl ?_ | refine Or.inl (And.intro rfl ?_) | refine Or.inr (And.intro rfl ?_) | refine And.intro (fun (_ : true = true) => ?_) (fun (h : true = false) => Bool.noConfusion h) | refine And.intro (fun (h : false = true) => Bool.noConfusion h) (fun (_ : false = false) => ?_)
    repeat first | refine And.intro rfl ?_ | refine Or.inl (And.intro rfl ?_) | refine Or.inr (And.intro rfl ?_) | refine And.intro (fun (_ : true = true) => ?_) (fun (h : true = false) => Bool.noConfusion h) | refine And.intro (fun (h : false = true) => Bool.noConfusion h) (fun (_ : false = false) => ?_)
    refine Exists.intro {k : Nat // k ≤ ps.length - 1} (Exists.intro (fun k => ⟨[(0, .one (.sl 6 (ps.map ptB))), (3, .ptr 0 0), (5, .own 0), (6, .val (.int .i64 (k.1 : Nat)))], ⟨[(36, [.val (.bool s), .nat l, .nat t])], [.s 38 6 (nB (D.take k.1))]⟩⟩) (Exists.intro (fun k => ps.length - k.1) (Exists.intro ⟨0, by omega⟩ (And.intro ?_ ?_))))
    · repeat first | exact trivial | refine And.intro rfl ?_ | refine And.intro trivial ?_ | refine And.intro (And.intro rfl trivial) ?_ | refine And.intro (And.intro rfl (And.intro rfl trivial)) ?_
    · rintro ⟨k, hk⟩
      have hi1 : IntKind.i64.wrap ((k : Int) + 1) = ((k + 1 : Nat) : Int) := by rw [wI (by omega) (by omega)]; omega
      repeat first | refine And.intro rfl ?_ | refine Or.inl (And.intro rfl ?_) | refine Or.inr (And.intro rfl ?_) | refine And.intro (fun (_ : true = true) => ?_) (fun (h : true = false) => Bool.noConfusion h) | refine And.intro (fun (h : false = true) => Bool.noConfusion h) (fun (_ : false = false) => ?_)
      refine And.intro (fun hc => ?_) (fun hc => ?_)
      · have hk' : IntKind.i64.wrap ((k : Int) + 1) < (((ps.map ptB).length : Nat) : Int) := of_decide_eq_true hc
        rw [hi1, List.length_map] at hk'
        have g1 : (ps.map ptB).getD (k : Int).toNat [] = ptB (ps.getD k PR.zero) := getD_ptB ps k (by omega)
        have g2 : (ps.map ptB).getD (IntKind.i64.wrap ((k : Int) + 1)).toNat [] = ptB (ps.getD (k + 1) PR.zero) := by rw [hi1]; exact getD_ptB ps (k + 1) (by omega)
        have k1 := hps _ (getD_mem' ps k PR.zero (by omega))
        have k2 := hps _ (getD_mem' ps (k + 1) PR.zero (by omega))
        have e1 := hat k (by omega)
        generalize ps.getD k PR.zero = p at g1 k1 e1
        generalize ps.getD (k + 1) PR.zero = p2 at g2 k2 e1
        repeat first | refine And.intro rfl ?_ | refine Or.inl (And.intro rfl ?_) | refine Or.inr (And.intro rfl ?_) | refine And.intro (fun (_ : true = true) => ?_) (fun (h : true = false) => Bool.noConfusion h) | refine And.intro (fun (h : false = true) => Bool.noConfusion h) (fun (_ : false = false) => ?_)
        refine And.intro (show 0 ≤ (k : Int) ∧ (k : Int) < (((ps.map ptB).length : Nat) : Int) by rw [List.length_map]; omega) ?_
        rw [g1]
        repeat first | refine And.intro rfl ?_ | refine Or.inl (And.intro rfl ?_) | refine Or.inr (And.intro rfl ?_) | refine And.intro (fun (_ : true = true) => ?_) (fun (h : true = false) => Bool.noConfusion h) | refine And.intro (fun (h : false = true) => Bool.noConfusion h) (fun (_ : false = false) => ?_)
        refine And.intro (show 0 ≤ IntKind.i64.wrap ((k : Int) + 1) ∧ IntKind.i64.wrap ((k : Int) + 1) < (((ps.map ptB).length : Nat) : Int) by rw [hi1, List.length_map]; omega) ?_
        rw [g2]
        repeat first | refine And.intro rfl ?_ | refine Or.inl (And.intro rfl ?_) | refine Or.inr (And.intro rfl ?_) | refine And.intro (fun (_ : true = true) => ?_) (fun (h : true = false) => Bool.noConfusion h) | refine And.intro (fun (h : false = true) => Bool.noConfusion h) (fun (_ : false = false) => ?_)
        refine And.intro (And.intro k1.1 (And.intro k1.2.1 (And.intro k1.2.2.1 (And.intro k1.2.2.2 (And.intro k2.1 (And.intro k2.2.1 (And.intro k2.2.2.1 (And.intro k2.2.2.2 (And.intro hp2 hp3))))))))) ?_
        repeat first | refine And.intro rfl ?_ | refine Or.inl (And.intro rfl ?_) | refine Or.inr (And.intro rfl ?_) | refine And.intro (fun (_ : true = true) => ?_) (fun (h : true = false) => Bool.noConfusion h) | refine And.intro (fun (h : false = true) => Bool.noConfusion h) (fun (_ : false = false) => ?_)
        refine And.intro (show (nB (D.take k)).length + 1 ≤ 1000000 by rw [nB_len, List.length_take]; omega) ?_
        repeat first | refine And.intro rfl ?_ | refine Or.inl (And.intro rfl ?_) | refine Or.inr (And.intro rfl ?_) | refine And.intro (fun (_ : true = true) => ?_) (fun (h : true = false) => Bool.noConfusion h) | refine And.intro (fun (h : false = true) => Bool.noConfusion h) (fun (_ : false = false) => ?_)
        refine Exists.intro ⟨k + 1, by omega⟩ (And.intro (show ps.length - (k + 1) < ps.length - k by omega) ?_)
        repeat first | exact trivial | refine And.intro rfl ?_ | refine And.intro trivial ?_ | refine And.intro (And.intro rfl trivial) ?_ | refine And.intro (And.intro rfl (And.intro rfl trivial)) ?_
        refine And.intro (And.intro (rwSl ?_) trivial) ?_
        · rw [nB_snoc _ _ (by omega), e1]
          rfl
        · repeat first | exact trivial | refine And.intro rfl ?_ | refine And.intro trivial ?_ | refine And.intro (And.intro rfl trivial) ?_ | refine And.intro (And.intro rfl (And.intro rfl trivial)) ?_
          exact And.intro (avI hi1) trivial
      · have hk' : ¬ IntKind.i64.wrap ((k : Int) + 1) < (((ps.map ptB).length : Nat) : Int) := of_decide_eq_false hc
        rw [hi1, List.length_map] at hk'
        repeat first | refine And.intro rfl ?_ | refine Or.inl (And.intro rfl ?_) | refine Or.inr (And.intro rfl ?_) | refine And.intro (fun (_ : true = true) => ?_) (fun (h : true = false) => Bool.noConfusion h) | refine And.intro (fun (h : false = true) => Bool.noConfusion h) (fun (_ : false = false) => ?_)
        refine resSl ?_
        show nB (D.take k) = nB D
        rw [List.take_of_length_le (by omega)]
  · cases h

def TY1 : Table := [(135, sValid), (136, sNorm9), (137, sDivide9)] ++ TY0
theorem TY1_ok : TabOk TY1 := TabOk.append (TabOk.cons ok_yValid (TabOk.cons ok_yNorm (TabOk.cons ok_yDivide TabOk.nil))) TY0_ok

/-- How long the terms of a level are. -/
def sC : Nat → Nat
  | 0 => 301
  | k + 1 => 3 * sC k + 301 + 3
theorem sC_le {k : Nat} (h : k ≤ 2) : sC k ≤ 4000 := by
  match k, h with
  | 0, _ => decide
  | 1, _ => decide
  | 2, _ => decide

set_option maxHeartbeats 1000000 in
theorem ok_yAt : Ok1 92 sAt := by
  refine ok_of TY1_ok Try.func92 rfl (by kernel_rfl) ?_
  intro xs pre res h hp hlim
  unfold sAt at h
  split at h
  · rename_i c s l t
    cases h
    obtain ⟨hsh, hp1, hp2⟩ := hp
    have hl : Lim l := hlim.2.1.2.1
    have ht : Lim t := hlim.2.1.2.2.1
    have hsz : Sz 301 (rq s l t) := Sz.rq hl ht hp1 hp2
    cases hv : okC c with
    | false =>
      refine And.intro (Nat.le_of_ble_eq_true rfl) ?_
      repeat first | refine And.intro rfl ?_ | refine Or.inl (And.intro rfl ?_) | refine Or.inr (And.intro rfl ?_) | refine And.intro (fun (_ : true = true) => ?_) (fun (h : true = false) => Bool.noConfusion h) | refine And.intro (fun (h : false = true) => Bool.noConfusion h) (fun (_ : false = false) => ?_)
      repeat first | refine And.intro rfl ?_ | refine And.intro True.intro ?_ | refine Or.inl (And.intro rfl ?_) | refine Or.inr (And.intro rfl ?_) | refine And.intro (fun (_ : true = true) => ?_) (fun (h : true = false) => Bool.noConfusion h) | refine And.intro (fun (h : false = true) => Bool.noConfusion h) (fun (_ : false = false) => ?_)
      refine And.intro (fun hc => ?_) (fun hc => ?_)
      · repeat first | refine And.intro rfl ?_ | refine And.intro True.intro ?_ | refine Or.inl (And.intro rfl ?_) | refine Or.inr (And.intro rfl ?_) | refine And.intro (fun (_ : true = true) => ?_) (fun (h : true = false) => Bool.noConfusion h) | refine And.intro (fun (h : false = true) => Bool.noConfusion h) (fun (_ : false = false) => ?_)
        rfl
      · rw [show decide (2 ≤ c.length ∧ c.length ≤ 4) = false from hv] at hc
        cases hc
    | true =>
      have hv' := of_decide_eq_true hv
      obtain ⟨ps, rfl, hps, hpl⟩ := sh_le hsh
      rw [← hpl] at hv'
      have hlm := lm_of hlim.1
      rw [valsOf_B]
      have vc := valsOf_B ps
      have svs := sp_vals hlm hps
      obtain ⟨vs, hvs⟩ : ∃ vs, vs = ps.map PR.v := ⟨_, rfl⟩
      have hvl : vs.length = ps.length := by rw [hvs, List.length_map]
      rw [← hvs] at vc svs ⊢
      obtain ⟨q, hq⟩ : ∃ q, q = rq s l t := ⟨_, rfl⟩
      rw [← hq] at hsz ⊢
      refine And.intro (Nat.le_of_ble_eq_true rfl) ?_
      repeat first | refine And.intro rfl ?_ | refine Or.inl (And.intro rfl ?_) | refine Or.inr (And.intro rfl ?_) | refine And.intro (fun (_ : true = true) => ?_) (fun (h : true = false) => Bool.noConfusion h) | refine And.intro (fun (h : false = true) => Bool.noConfusion h) (fun (_ : false = false) => ?_)
      repeat first | refine And.intro rfl ?_ | refine And.intro True.intro ?_ | refine Or.inl (And.intro rfl ?_) | refine Or.inr (And.intro rfl ?_) | refine And.intro (fun (_ : true = true) => ?_) (fun (h : true = false) => Bool.noConfusion h) | refine And.intro (fun (h : false = true) => Bool.noConfusion h) (fun (_ : false = false) => ?_)
      refine And.intro (fun hc => ?_) (fun hc => ?_)
      · rw [show decide (2 ≤ (ps.map ptB).length ∧ (ps.map ptB).length ≤ 4) = true from hv] at hc
        cases hc
      · repeat first | refine And.intro rfl ?_ | refine And.intro True.intro ?_ | refine Or.inl (And.intro rfl ?_) | refine Or.inr (And.intro rfl ?_) | refine And.intro (fun (_ : true = true) => ?_) (fun (h : true = false) => Bool.noConfusion h) | refine And.intro (fun (h : false = true) => Bool.noConfusion h) (fun (_ : false = false) => ?_)
        refine And.intro (show ShP 60000 (ps.map ptB) ∧ (ps.map ptB).length ≤ 1000 from ⟨sh_ps hps (by decide), by rw [List.length_map]; omega⟩) ?_
        rw [vc]
        repeat first | refine And.intro rfl ?_ | refine And.intro True.intro ?_ | refine Or.inl (And.intro rfl ?_) | refine Or.inr (And.intro rfl ?_) | refine And.intro (fun (_ : true = true) => ?_) (fun (h : true = false) => Bool.noConfusion h) | refine And.intro (fun (h : false = true) => Bool.noConfusion h) (fun (_ : false = false) => ?_)
        refine Exists.intro {x : List (Rat × Rat) // 1 ≤ x.length ∧ x.length ≤ vs.length ∧ (∀ p, p ∈ x → Sp (sC (vs.length - x.length)) p) ∧ atQ (x.length - 1) x q = bez vs q} (Exists.intro (fun x => ⟨[(3, .ptr 0 0), (4, .ptr 1 0), (6, .one (.sl 6 (nB x.1)))], ⟨[(36, [.val (.bool s), .nat l, .nat t]), (38, zQ ++ zQ)], []⟩⟩) (Exists.intro (fun x => x.1.length) (Exists.intro ⟨vs, by omega, Nat.le_refl _, (by rw [Nat.sub_self]; exact svs), rfl⟩ (And.intro ?_ ?_))))
        · repeat first | exact trivial | refine And.intro rfl ?_ | refine And.intro trivial ?_ | refine And.intro (And.intro rfl trivial) ?_ | refine And.intro (And.intro rfl (And.intro rfl trivial)) ?_
        · rintro ⟨cur, hx1, hx2, hx3, hx4⟩
          have vcur := vals_nB cur
          repeat first | refine And.intro rfl ?_ | refine Or.inl (And.intro rfl ?_) | refine Or.inr (And.intro rfl ?_) | refine And.intro (fun (_ : true = true) => ?_) (fun (h : true = false) => Bool.noConfusion h) | refine And.intro (fun (h : false = true) => Bool.noConfusion h) (fun (_ : false = false) => ?_)
          refine And.intro (fun hc => ?_) (fun hc => ?_)
          · have hlen : 1 < cur.length := by
              have : (((nB cur).length : Nat) : Int) > 1 := of_decide_eq_true hc
              rw [nB_len] at this
              omega
            obtain ⟨m, hm⟩ : ∃ m, cur.length = m + 2 := ⟨cur.length - 2, by omega⟩
            have hdl := divQ_len cur q
            repeat first | refine And.intro rfl ?_ | refine Or.inl (And.intro rfl ?_) | refine Or.inr (And.intro rfl ?_) | refine And.intro (fun (_ : true = true) => ?_) (fun (h : true = false) => Bool.noConfusion h) | refine And.intro (fun (h : false = true) => Bool.noConfusion h) (fun (_ : false = false) => ?_)
            refine And.intro (show ShP 4000 (nB cur) ∧ (nB cur).length ≤ 1000 ∧ l.length ≤ 4000 ∧ t.length ≤ 4000 from ⟨sh_nB hx3 (sC_le (by omega)), by rw [nB_len]; omega, by omega, by omega⟩) ?_
            rw [vcur, ← hq]
            repeat first | refine And.intro rfl ?_ | refine Or.inl (And.intro rfl ?_) | refine Or.inr (And.intro rfl ?_) | refine And.intro (fun (_ : true = true) => ?_) (fun (h : true = false) => Bool.noConfusion h) | refine And.intro (fun (h : false = true) => Bool.noConfusion h) (fun (_ : false = false) => ?_)
            refine Exists.intro ⟨divQ cur q, by omega, by omega, ?_, ?_⟩ (And.intro (show (divQ cur q).length < cur.length by omega) ?_)
            · rw [show vs.length - (divQ cur q).length = (vs.length - cur.length) + 1 by omega]
              exact divQ_sp hsz hx3
            · rw [← hx4, hdl, hm]
              rfl
            · repeat first | exact trivial | refine And.intro rfl ?_ | refine And.intro trivial ?_ | refine And.intro (And.intro rfl trivial) ?_ | refine And.intro (And.intro rfl (And.intro rfl trivial)) ?_
          · have hlen : cur.length = 1 := by
              have : ¬ (((nB cur).length : Nat) : Int) > 1 := of_decide_eq_false hc
              rw [nB_len] at this
              omega
            match cur, hlen with
            | [P], _ =>
              have hx5 : P = bez vs q := hx4
              repeat first | refine And.intro rfl ?_ | refine Or.inl (And.intro rfl ?_) | refine Or.inr (And.intro rfl ?_) | refine And.intro (fun (_ : true = true) => ?_) (fun (h : true = false) => Bool.noConfusion h) | refine And.intro (fun (h : false = true) => Bool.noConfusion h) (fun (_ : false = false) => ?_)
              refine And.intro (show 0 ≤ (0 : Int) ∧ (0 : Int) < ((1 : Nat) : Int) by decide) ?_
              repeat first | refine And.intro rfl ?_ | refine And.intro True.intro ?_ | refine Or.inl (And.intro rfl ?_) | refine Or.inr (And.intro rfl ?_) | refine And.intro (fun (_ : true = true) => ?_) (fun (h : true = false) => Bool.noConfusion h) | refine And.intro (fun (h : false = true) => Bool.noConfusion h) (fun (_ : false = false) => ?_)
              show Res.t [.agg (dp (!true) P), .val (.int .i64 0)] = Res.t [.agg (dp (!true) (bez vs q)), .val (.int .i64 0)]
              rw [← hx5]
  · cases h

def TY2 : Table := (92, sAt) :: TY1
theorem TY2_ok : TabOk TY2 := TabOk.cons ok_yAt TY1_ok

set_option maxHeartbeats 1000000 in
theorem ok_yFlatten : Ok1 99 sFlatten := by
  refine ok_of TY2_ok Try.func99 rfl (by kernel_rfl) ?_
  intro xs pre res h hp hlim
  unfold sFlatten at h
  split at h
  · rename_i c n
    cases h
    obtain ⟨hsh, hn⟩ := hp
    cases hv : okC c with
    | false =>
      refine And.intro (Nat.le_of_ble_eq_true rfl) ?_
      repeat first | refine And.intro rfl ?_ | refine Or.inl (And.intro rfl ?_) | refine Or.inr (And.intro rfl ?_) | refine And.intro (fun (_ : true = true) => ?_) (fun (h : true = false) => Bool.noConfusion h) | refine And.intro (fun (h : false = true) => Bool.noConfusion h) (fun (_ : false = false) => ?_)
      repeat first | refine And.intro rfl ?_ | refine And.intro True.intro ?_ | refine Or.inl (And.intro rfl ?_) | refine Or.inr (And.intro rfl ?_) | refine And.intro (fun (_ : true = true) => ?_) (fun (h : true = false) => Bool.noConfusion h) | refine And.intro (fun (h : false = true) => Bool.noConfusion h) (fun (_ : false = false) => ?_)
      refine And.intro (fun hc => ?_) (fun hc => ?_)
      · repeat first | refine And.intro rfl ?_ | refine And.intro True.intro ?_ | refine Or.inl (And.intro rfl ?_) | refine Or.inr (And.intro rfl ?_) | refine And.intro (fun (_ : true = true) => ?_) (fun (h : true = false) => Bool.noConfusion h) | refine And.intro (fun (h : false = true) => Bool.noConfusion h) (fun (_ : false = false) => ?_)
        rfl
      · rw [show decide (2 ≤ c.length ∧ c.length ≤ 4) = false from hv] at hc
        cases hc
    | true =>
      refine And.intro (Nat.le_of_ble_eq_true rfl) ?_
      repeat first | refine And.intro rfl ?_ | refine Or.inl (And.intro rfl ?_) | refine Or.inr (And.intro rfl ?_) | refine And.intro (fun (_ : true = true) => ?_) (fun (h : true = false) => Bool.noConfusion h) | refine And.intro (fun (h : false = true) => Bool.noConfusion h) (fun (_ : false = false) => ?_)
      repeat first | refine And.intro rfl ?_ | refine And.intro True.intro ?_ | refine Or.inl (And.intro rfl ?_) | refine Or.inr (And.intro rfl ?_) | refine And.intro (fun (_ : true = true) => ?_) (fun (h : true = false) => Bool.noConfusion h) | refine And.intro (fun (h : false = true) => Bool.noConfusion h) (fun (_ : false = false) => ?_)
      refine And.intro (fun hc => ?_) (fun hc => ?_)
      · rw [show decide (2 ≤ c.length ∧ c.length ≤ 4) = true from hv] at hc
        cases hc
      · by_cases h1 : n < 1
        · repeat first | refine And.intro rfl ?_ | refine And.intro True.intro ?_ | refine Or.inl (And.intro rfl ?_) | refine Or.inr (And.intro rfl ?_) | refine And.intro (fun (_ : true = true) => ?_) (fun (h : true = false) => Bool.noConfusion h) | refine And.intro (fun (h : false = true) => Bool.noConfusion h) (fun (_ : false = false) => ?_)
          refine Or.inr (And.intro (decide_eq_true h1) ?_)
          repeat first | refine And.intro rfl ?_ | refine And.intro True.intro ?_ | refine Or.inl (And.intro rfl ?_) | refine Or.inr (And.intro rfl ?_) | refine And.intro (fun (_ : true = true) => ?_) (fun (h : true = false) => Bool.noConfusion h) | refine And.intro (fun (h : false = true) => Bool.noConfusion h) (fun (_ : false = false) => ?_)
          exact resFl (by rw [show okN n = false from decide_eq_false (by omega)]; rfl) (by rw [show okN n = false from decide_eq_false (by omega)]; rfl)
        · repeat first | refine And.intro rfl ?_ | refine And.intro True.intro ?_ | refine Or.inl (And.intro rfl ?_) | refine Or.inr (And.intro rfl ?_) | refine And.intro (fun (_ : true = true) => ?_) (fun (h : true = false) => Bool.noConfusion h) | refine And.intro (fun (h : false = true) => Bool.noConfusion h) (fun (_ : false = false) => ?_)
          refine Or.inl (And.intro (decide_eq_false h1) ?_)
          repeat first | refine And.intro rfl ?_ | refine And.intro True.intro ?_ | refine Or.inl (And.intro rfl ?_) | refine Or.inr (And.intro rfl ?_) | refine And.intro (fun (_ : true = true) => ?_) (fun (h : true = false) => Bool.noConfusion h) | refine And.intro (fun (h : false = true) => Bool.noConfusion h) (fun (_ : false = false) => ?_)
          refine And.intro (fun hc2 => ?_) (fun hc2 => ?_)
          · have hc2 : n > 39 := of_decide_eq_true hc2
            repeat first | refine And.intro rfl ?_ | refine And.intro True.intro ?_ | refine Or.inl (And.intro rfl ?_) | refine Or.inr (And.intro rfl ?_) | refine And.intro (fun (_ : true = true) => ?_) (fun (h : true = false) => Bool.noConfusion h) | refine And.intro (fun (h : false = true) => Bool.noConfusion h) (fun (_ : false = false) => ?_)
            exact resFl (by rw [show okN n = false from decide_eq_false (by omega)]; rfl) (by rw [show okN n = false from decide_eq_false (by omega)]; rfl)
          · have hc2 : ¬ n > 39 := of_decide_eq_false hc2
            obtain ⟨m, rfl⟩ : ∃ m : Nat, n = (m : Int) := ⟨n.toNat, by omega⟩
            rw [show okN (m : Int) = true from decide_eq_true (by omega), Int.toNat_natCast]
            obtain ⟨F, hF⟩ : ∃ F, F = fltQ (valsOf c) m := ⟨_, rfl⟩
            have hFl : F.length = m + 1 := by rw [hF, fltQ_len]
            rw [← hF]
            repeat first | refine And.intro rfl ?_ | refine And.intro True.intro ?_ | refine Or.inl (And.intro rfl ?_) | refine Or.inr (And.intro rfl ?_) | refine And.intro (fun (_ : true = true) => ?_) (fun (h : true = false) => Bool.noConfusion h) | refine And.intro (fun (h : false = true) => Bool.noConfusion h) (fun (_ : false = false) => ?_)
            refine Exists.intro {k : Nat // k ≤ m + 1} (Exists.intro (fun k => ⟨[(0, .one (.sl 6 c)), (1, .val (.int .i64 (m : Nat))), (6, .own 0), (7, .val (.int .i64 (k.1 : Nat)))], ⟨[], [.s 38 6 (nB (F.take k.1))]⟩⟩) (Exists.intro (fun k => m + 1 - k.1) (Exists.intro ⟨0, by omega⟩ (And.intro ?_ ?_))))
            · repeat first | exact trivial | refine And.intro rfl ?_ | refine And.intro trivial ?_ | refine And.intro (And.intro rfl trivial) ?_ | refine And.intro (And.intro rfl (And.intro rfl trivial)) ?_
            · rintro ⟨k, hk⟩
              repeat first | refine And.intro rfl ?_ | refine Or.inl (And.intro rfl ?_) | refine Or.inr (And.intro rfl ?_) | refine And.intro (fun (_ : true = true) => ?_) (fun (h : true = false) => Bool.noConfusion h) | refine And.intro (fun (h : false = true) => Bool.noConfusion h) (fun (_ : false = false) => ?_)
              refine And.intro (fun hc => ?_) (fun hc => ?_)
              · have hk' : (k : Int) ≤ (m : Int) := of_decide_eq_true hc
                have hz := frac_sz (i := k) (n := m) (by omega) (by omega)
                repeat first | refine And.intro rfl ?_ | refine Or.inl (And.intro rfl ?_) | refine Or.inr (And.intro rfl ?_) | refine And.intro (fun (_ : true = true) => ?_) (fun (h : true = false) => Bool.noConfusion h) | refine And.intro (fun (h : false = true) => Bool.noConfusion h) (fun (_ : false = false) => ?_)
                refine And.intro (show -9223372036854775808 ≤ (k : Int) ∧ (k : Int) < 9223372036854775808 ∧ -9223372036854775808 ≤ (m : Int) ∧ (m : Int) < 9223372036854775808 ∧ (m : Int) ≠ 0 ∧ DivFit _ from ⟨by omega, by omega, by omega, by omega, by omega, trivial⟩) ?_
                rw [mk_frac k m (by omega)]
                repeat first | refine And.intro rfl ?_ | refine Or.inl (And.intro rfl ?_) | refine Or.inr (And.intro rfl ?_) | refine And.intro (fun (_ : true = true) => ?_) (fun (h : true = false) => Bool.noConfusion h) | refine And.intro (fun (h : false = true) => Bool.noConfusion h) (fun (_ : false = false) => ?_)
                refine And.intro (show ShP 300 c ∧ (dg (mkRat (k : Int) m).num.natAbs).length ≤ 300 ∧ (dg (mkRat (k : Int) m).den).length ≤ 300 from ⟨hsh, hz.lenN (by decide), hz.lenD (by decide)⟩) ?_
                rw [rq_cq, hv]
                repeat first | refine And.intro rfl ?_ | refine And.intro True.intro ?_ | refine Or.inl (And.intro rfl ?_) | refine Or.inr (And.intro rfl ?_) | refine And.intro (fun (_ : true = true) => ?_) (fun (h : true = false) => Bool.noConfusion h) | refine And.intro (fun (h : false = true) => Bool.noConfusion h) (fun (_ : false = false) => ?_)
                refine And.intro (show (nB (F.take k)).length + 1 ≤ 1000000 by rw [nB_len, List.length_take]; omega) ?_
                repeat first | refine And.intro rfl ?_ | refine Or.inl (And.intro rfl ?_) | refine Or.inr (And.intro rfl ?_) | refine And.intro (fun (_ : true = true) => ?_) (fun (h : true = false) => Bool.noConfusion h) | refine And.intro (fun (h : false = true) => Bool.noConfusion h) (fun (_ : false = false) => ?_)
                refine Exists.intro ⟨k + 1, by omega⟩ (And.intro (show m + 1 - (k + 1) < m + 1 - k by omega) ?_)
                repeat first | exact trivial | refine And.intro rfl ?_ | refine And.intro trivial ?_ | refine And.intro (And.intro rfl trivial) ?_ | refine And.intro (And.intro rfl (And.intro rfl trivial)) ?_
                refine And.intro (And.intro (rwSl ?_) trivial) ?_
                · show nB (F.take k) ++ [ptB (prQ (bez (valsOf c) (mkRat (k : Int) m)))] = nB (F.take (k + 1))
                  rw [nB_snoc F k (by omega), hF, fltQ_at _ _ _ (by omega)]
                · repeat first | exact trivial | refine And.intro rfl ?_ | refine And.intro trivial ?_ | refine And.intro (And.intro rfl trivial) ?_ | refine And.intro (And.intro rfl (And.intro rfl trivial)) ?_
                  exact And.intro (avI (show IntKind.i64.wrap ((k : Int) + 1) = ((k + 1 : Nat) : Int) by rw [wI (by omega) (by omega)]; omega)) trivial
              · have hk' : ¬ (k : Int) ≤ (m : Int) := of_decide_eq_false hc
                repeat first | refine And.intro rfl ?_ | refine Or.inl (And.intro rfl ?_) | refine Or.inr (And.intro rfl ?_) | refine And.intro (fun (_ : true = true) => ?_) (fun (h : true = false) => Bool.noConfusion h) | refine And.intro (fun (h : false = true) => Bool.noConfusion h) (fun (_ : false = false) => ?_)
                refine resFl ?_ rfl
                show nB (F.take k) = nB F
                rw [List.take_of_length_le (by omega)]
  · cases h

end Go.Gm

/-
  The statements about curves, part I: CurveFlattens. Plain theorems; no condition.
-/
namespace Go.Gm
open Go.Proofs

attribute [local irreducible] sameL bez mkRat rq fltQ


def TE2 : Table := (99, sFlatten) :: TE1
theorem TE2_ok : TabOk TE2 := TabOk.cons ok_yFlatten TE1_ok

def sCurveFlattens : List RV → Option (Prop × Res)
  | [.one (.sl 6 c), .one (.b (.val (.int .i64 n)))] => some (IsP c ∧ InR n, .r (.val (.bool true)))
  | _ => none

theorem sh_nil (m : Nat) : ShP m [] := sh_nB (L := []) (n := m) (fun _ h => by cases h) (Nat.le_refl _)

set_option maxRecDepth 20000 in
set_option maxHeartbeats 4000000 in
theorem ok_CurveFlattens : Ok1 23 sCurveFlattens := by
  refine ok_of TE2_ok Try.func23 rfl (by kernel_rfl) ?_
  intro xs pre res h hp hlim
  unfold sCurveFlattens at h
  split at h
  · rename_i c n
    cases h
    obtain ⟨hp, hn⟩ := hp
    refine And.intro (Nat.le_of_ble_eq_true rfl) ?_
    repeat first | refine And.intro rfl ?_ | refine Or.inl (And.intro rfl ?_) | refine Or.inr (And.intro rfl ?_) | refine And.intro (fun (_ : true = true) => ?_) (fun (h : true = false) => Bool.noConfusion h) | refine And.intro (fun (h : false = true) => Bool.noConfusion h) (fun (_ : false = false) => ?_)
    refine And.intro (show IsP c ∧ (6 : Int) ≤ 1000 from ⟨hp, by decide⟩) ?_
    cases hL : (decide ((c.length : Int) ≤ 6) && (ptsOf c).all (lightPR 3)) with
    | false =>
      repeat first | refine And.intro rfl ?_ | refine And.intro True.intro ?_ | refine Or.inl (And.intro rfl ?_) | refine Or.inr (And.intro rfl ?_) | refine And.intro (fun (_ : true = true) => ?_) (fun (h : true = false) => Bool.noConfusion h) | refine And.intro (fun (h : false = true) => Bool.noConfusion h) (fun (_ : false = false) => ?_)
      rfl
    | true =>
      obtain ⟨h6, ps, rfl, hpl, hps⟩ := light_c (m := 6) (n := 3) hp hL
      have hlm := lm_of hlim.1
      have vc := valsOf_B ps
      have svs := sp_vals hlm hps
      obtain ⟨vs, hvs⟩ : ∃ vs, vs = ps.map PR.v := ⟨_, rfl⟩
      have hvl : vs.length = ps.length := by rw [hvs, List.length_map]
      rw [← hvs] at vc svs
      obtain ⟨A, hA⟩ : ∃ A, A = cond (okC (ps.map ptB)) (cond (okN n) (fltQ vs n.toNat) []) [] := ⟨_, rfl⟩
      have eA : (cond (okC (ps.map ptB)) (cond (okN n) (nB (fltQ vs n.toNat)) []) []) = nB A := by
        rw [hA]
        cases okC (ps.map ptB) <;> cases okN n <;> rfl
      have sA : ∀ p, p ∈ A → Sp 200 p := by
        rw [hA]
        cases hv : okC (ps.map ptB) with
        | false => intro p hp; cases hp
        | true =>
          cases hw : okN n with
          | false => intro p hp; cases hp
          | true =>
            have hv' := of_decide_eq_true hv
            have hw' := of_decide_eq_true hw
            rw [List.length_map] at hv'
            intro p hp
            have hp : p ∈ fltQ vs n.toNat := hp
            obtain ⟨i, hi, rfl⟩ := List.getElem_of_mem hp
            have e : (fltQ vs n.toNat).getD i (0, 0) = (fltQ vs n.toNat)[i] := by simp [List.getD_eq_getElem?_getD, hi]
            rw [fltQ_len] at hi
            rw [← e, fltQ_at _ _ _ hi]
            exact (bez_sp3 (frac_sz (by omega) (by omega)) (by omega) (by omega) svs).mono (by decide +kernel)
      have lA : A.length ≤ 40 := by
        rw [hA]
        cases okC (ps.map ptB) with
        | false => exact Nat.zero_le _
        | true =>
          cases hw : okN n with
          | false => exact Nat.zero_le _
          | true =>
            have hw' := of_decide_eq_true hw
            show (fltQ vs n.toNat).length ≤ 40
            rw [fltQ_len]
            omega
      repeat first | refine And.intro rfl ?_ | refine And.intro True.intro ?_ | refine Or.inl (And.intro rfl ?_) | refine Or.inr (And.intro rfl ?_) | refine And.intro (fun (_ : true = true) => ?_) (fun (h : true = false) => Bool.noConfusion h) | refine And.intro (fun (h : false = true) => Bool.noConfusion h) (fun (_ : false = false) => ?_)
      refine And.intro (And.intro (sh_ps hps (by decide)) hn) ?_
      rw [vc, eA]
      generalize eer : (cond (okC (ps.map ptB)) (cond (okN n) (0 : Int) 3) 1) = er
      repeat first | refine And.intro rfl ?_ | refine And.intro True.intro ?_ | refine Or.inl (And.intro rfl ?_) | refine Or.inr (And.intro rfl ?_) | refine And.intro (fun (_ : true = true) => ?_) (fun (h : true = false) => Bool.noConfusion h) | refine And.intro (fun (h : false = true) => Bool.noConfusion h) (fun (_ : false = false) => ?_)
      refine And.intro (And.intro (sh_ps hps (by decide)) hn) ?_
      rw [vc, eA, eer]
      repeat first | refine And.intro rfl ?_ | refine And.intro True.intro ?_ | refine Or.inl (And.intro rfl ?_) | refine Or.inr (And.intro rfl ?_) | refine And.intro (fun (_ : true = true) => ?_) (fun (h : true = false) => Bool.noConfusion h) | refine And.intro (fun (h : false = true) => Bool.noConfusion h) (fun (_ : false = false) => ?_)
      refine Or.inl (And.intro (show (er == er) = true from beq_self_eq_true er) ?_)
      repeat first | refine And.intro rfl ?_ | refine And.intro True.intro ?_ | refine Or.inl (And.intro rfl ?_) | refine Or.inr (And.intro rfl ?_) | refine And.intro (fun (_ : true = true) => ?_) (fun (h : true = false) => Bool.noConfusion h) | refine And.intro (fun (h : false = true) => Bool.noConfusion h) (fun (_ : false = false) => ?_)
      refine And.intro (And.intro (sh_nB sA (by decide)) (And.intro (isP_B (nrm A)) (show (nB A).length ≤ 1000 by rw [nB_len]; omega))) ?_
      repeat first | refine And.intro rfl ?_ | refine And.intro True.intro ?_ | refine Or.inl (And.intro rfl ?_) | refine Or.inr (And.intro rfl ?_) | refine And.intro (fun (_ : true = true) => ?_) (fun (h : true = false) => Bool.noConfusion h) | refine And.intro (fun (h : false = true) => Bool.noConfusion h) (fun (_ : false = false) => ?_)
      refine Or.inl (And.intro (same_nB (L := A) (M := A) rfl) ?_)
      repeat first | refine And.intro rfl ?_ | refine And.intro True.intro ?_ | refine Or.inl (And.intro rfl ?_) | refine Or.inr (And.intro rfl ?_) | refine And.intro (fun (_ : true = true) => ?_) (fun (h : true = false) => Bool.noConfusion h) | refine And.intro (fun (h : false = true) => Bool.noConfusion h) (fun (_ : false = false) => ?_)
      rfl
  · cases h

end Go.Gm

/-
  The statements about curves, part J: CurveBoxed. Plain theorems; no condition.
-/
namespace Go.Gm
open Go.Proofs

theorem on_ge {lo a b t : Rat} (h1 : lo ≤ a) (h2 : lo ≤ b) (h3 : 0 ≤ t) (h4 : t ≤ 1) : lo ≤ a + (b - a) * t := by
  have x := Rat.mul_nonneg (a := a - lo) (b := 1 - t) (by grind) (by grind)
  have y := Rat.mul_nonneg (a := b - lo) (b := t) (by grind) h3
  grind
theorem on_le {hi a b t : Rat} (h1 : a ≤ hi) (h2 : b ≤ hi) (h3 : 0 ≤ t) (h4 : t ≤ 1) : a + (b - a) * t ≤ hi := by
  have x := Rat.mul_nonneg (a := hi - a) (b := 1 - t) (by grind) (by grind)
  have y := Rat.mul_nonneg (a := hi - b) (b := t) (by grind) h3
  grind

/-- A half plane that holds the control points holds the curve. -/
theorem bez_in {Q : Rat × Rat → Prop} {t : Rat} (hQ : ∀ a b, Q a → Q b → Q (onP a b t)) {l : List (Rat × Rat)} (h2 : 2 ≤ l.length) (h4 : l.length ≤ 4) (h : ∀ p, p ∈ l → Q p) : Q (bez l t) := by
  match l, h2, h4, h with
  | [a, b], _, _, h => exact hQ _ _ (h a (by simp)) (h b (by simp))
  | [a, b, c], _, _, h => exact hQ _ _ (hQ _ _ (h a (by simp)) (h b (by simp))) (hQ _ _ (h b (by simp)) (h c (by simp)))
  | [a, b, c, d], _, _, h =>
    exact hQ _ _ (hQ _ _ (hQ _ _ (h a (by simp)) (h b (by simp))) (hQ _ _ (h b (by simp)) (h c (by simp)))) (hQ _ _ (hQ _ _ (h b (by simp)) (h c (by simp))) (hQ _ _ (h c (by simp)) (h d (by simp))))

theorem minR_le (a b : Rat) : minR a b ≤ a ∧ minR a b ≤ b := by
  unfold minR
  by_cases h : b < a
  · rw [decide_eq_true h]
    exact ⟨(by show b ≤ a; grind), (by show b ≤ b; grind)⟩
  · rw [decide_eq_false h]
    exact ⟨(by show a ≤ a; grind), (by show a ≤ b; grind)⟩
theorem maxR_ge (a b : Rat) : a ≤ maxR a b ∧ b ≤ maxR a b := by
  unfold maxR
  by_cases h : a < b
  · rw [decide_eq_true h]
    exact ⟨(by show a ≤ b; grind), (by show b ≤ b; grind)⟩
  · rw [decide_eq_false h]
    exact ⟨(by show a ≤ a; grind), (by show b ≤ a; grind)⟩

theorem loQ_le : ∀ (l : List (Rat × Rat)) (a : Rat × Rat), ((loQ a l).1 ≤ a.1 ∧ (loQ a l).2 ≤ a.2) ∧ ∀ p, p ∈ l → (loQ a l).1 ≤ p.1 ∧ (loQ a l).2 ≤ p.2
  | [], a => ⟨⟨(by show a.1 ≤ a.1; grind), (by show a.2 ≤ a.2; grind)⟩, fun p hp => by cases hp⟩
  | b :: l, a => by
    have ih := loQ_le l (minR a.1 b.1, minR a.2 b.2)
    have e : loQ a (b :: l) = loQ (minR a.1 b.1, minR a.2 b.2) l := rfl
    have m1 := minR_le a.1 b.1
    have m2 := minR_le a.2 b.2
    rw [e]
    generalize loQ (minR a.1 b.1, minR a.2 b.2) l = z at ih
    have i1 : z.1 ≤ minR a.1 b.1 := ih.1.1
    have i2 : z.2 ≤ minR a.2 b.2 := ih.1.2
    refine ⟨⟨by grind, by grind⟩, fun p hp => ?_⟩
    rcases List.mem_cons.1 hp with rfl | hp
    · exact ⟨by grind, by grind⟩
    · exact ih.2 p hp
theorem hiQ_ge : ∀ (l : List (Rat × Rat)) (a : Rat × Rat), (a.1 ≤ (hiQ a l).1 ∧ a.2 ≤ (hiQ a l).2) ∧ ∀ p, p ∈ l → p.1 ≤ (hiQ a l).1 ∧ p.2 ≤ (hiQ a l).2
  | [], a => ⟨⟨(by show a.1 ≤ a.1; grind), (by show a.2 ≤ a.2; grind)⟩, fun p hp => by cases hp⟩
  | b :: l, a => by
    have ih := hiQ_ge l (maxR a.1 b.1, maxR a.2 b.2)
    have e : hiQ a (b :: l) = hiQ (maxR a.1 b.1, maxR a.2 b.2) l := rfl
    have m1 := maxR_ge a.1 b.1
    have m2 := maxR_ge a.2 b.2
    rw [e]
    generalize hiQ (maxR a.1 b.1, maxR a.2 b.2) l = z at ih
    have i1 : maxR a.1 b.1 ≤ z.1 := ih.1.1
    have i2 : maxR a.2 b.2 ≤ z.2 := ih.1.2
    refine ⟨⟨by grind, by grind⟩, fun p hp => ?_⟩
    rcases List.mem_cons.1 hp with rfl | hp
    · exact ⟨by grind, by grind⟩
    · exact ih.2 p hp
theorem minR_sz {n : Nat} {a b : Rat} (ha : Sz n a) (hb : Sz n b) : Sz n (minR a b) := by
  unfold minR
  cases decide (b < a)
  · exact ha
  · exact hb
theorem maxR_sz {n : Nat} {a b : Rat} (ha : Sz n a) (hb : Sz n b) : Sz n (maxR a b) := by
  unfold maxR
  cases decide (a < b)
  · exact ha
  · exact hb
theorem loQ_sp {n : Nat} : ∀ (l : List (Rat × Rat)) (a : Rat × Rat), Sp n a → (∀ p, p ∈ l → Sp n p) → Sp n (loQ a l)
  | [], _, ha, _ => ha
  | b :: l, a, ha, h => loQ_sp l (minR a.1 b.1, minR a.2 b.2) ⟨minR_sz ha.1 (h b (by simp)).1, minR_sz ha.2 (h b (by simp)).2⟩ (fun p hp => h p (List.mem_cons_of_mem _ hp))
theorem hiQ_sp {n : Nat} : ∀ (l : List (Rat × Rat)) (a : Rat × Rat), Sp n a → (∀ p, p ∈ l → Sp n p) → Sp n (hiQ a l)
  | [], _, ha, _ => ha
  | b :: l, a, ha, h => hiQ_sp l (maxR a.1 b.1, maxR a.2 b.2) ⟨maxR_sz ha.1 (h b (by simp)).1, maxR_sz ha.2 (h b (by simp)).2⟩ (fun p hp => h p (List.mem_cons_of_mem _ hp))

theorem box_all {l : List (Rat × Rat)} (h2 : 2 ≤ l.length) : ∀ p, p ∈ l → ((boxLo l).1 ≤ p.1 ∧ (boxLo l).2 ≤ p.2) ∧ p.1 ≤ (boxHi l).1 ∧ p.2 ≤ (boxHi l).2 := by
  match l, h2 with
  | a :: l, _ =>
    have x := loQ_le l a
    have y := hiQ_ge l a
    intro p hp
    rcases List.mem_cons.1 hp with rfl | hp
    · exact ⟨x.1, y.1⟩
    · exact ⟨x.2 p hp, y.2 p hp⟩
theorem box_sp {n : Nat} {l : List (Rat × Rat)} (h2 : 2 ≤ l.length) (h : ∀ p, p ∈ l → Sp n p) : Sp n (boxLo l) ∧ Sp n (boxHi l) := by
  match l, h2 with
  | a :: l, _ => exact ⟨loQ_sp l a (h a (by simp)) (fun p hp => h p (List.mem_cons_of_mem _ hp)), hiQ_sp l a (h a (by simp)) (fun p hp => h p (List.mem_cons_of_mem _ hp))⟩
theorem box_bez {l : List (Rat × Rat)} {t : Rat} (h2 : 2 ≤ l.length) (h4 : l.length ≤ 4) (h0 : 0 ≤ t) (h1 : t ≤ 1) :
    ((boxLo l).1 ≤ (bez l t).1 ∧ (boxLo l).2 ≤ (bez l t).2) ∧ (bez l t).1 ≤ (boxHi l).1 ∧ (bez l t).2 ≤ (boxHi l).2 := by
  have h := box_all h2
  refine bez_in (Q := fun p => ((boxLo l).1 ≤ p.1 ∧ (boxLo l).2 ≤ p.2) ∧ p.1 ≤ (boxHi l).1 ∧ p.2 ≤ (boxHi l).2) (fun a b ha hb => ?_) h2 h4 h
  exact ⟨⟨on_ge ha.1.1 hb.1.1 h0 h1, on_ge ha.1.2 hb.1.2 h0 h1⟩, on_le ha.2.1 hb.2.1 h0 h1, on_le ha.2.2 hb.2.2 h0 h1⟩

theorem cmpQ_le {a b : Rat} (h : a ≤ b) : decide (cmpQ a b ≤ 0) = true := by
  unfold cmpQ
  by_cases h1 : a < b
  · rw [if_pos h1]; rfl
  · rw [if_neg h1, if_neg (show ¬ b < a by grind)]; rfl

def TE3 : Table := [(100, sRatCmp), (101, sWholeR), (60, sRatCmp)] ++ TE1
theorem TE3_ok : TabOk TE3 := TabOk.append (TabOk.cons ok_kCmp (TabOk.cons ok_kWhole (TabOk.cons ok_ratCmp TabOk.nil))) TE1_ok

def sCurveBoxed : List RV → Option (Prop × Res)
  | [.one (.sl 6 c), .agg [.b (.val (.bool s)), .b (.nat l), .b (.nat t)]] => some (IsP c, .r (.val (.bool true)))
  | _ => none


attribute [local irreducible] sameL bez mkRat rq boxLo boxHi cmpQ

set_option maxRecDepth 20000 in
set_option maxHeartbeats 4000000 in
theorem ok_CurveBoxed : Ok1 25 sCurveBoxed := by
  refine ok_of TE3_ok Try.func25 rfl (by kernel_rfl) ?_
  intro xs pre res h hp hlim
  unfold sCurveBoxed at h
  split at h
  · rename_i c s l t
    cases h
    have hl : Lim l := hlim.2.1.2.1
    have ht : Lim t := hlim.2.1.2.2.1
    refine And.intro (Nat.le_of_ble_eq_true rfl) ?_
    repeat first | refine And.intro rfl ?_ | refine Or.inl (And.intro rfl ?_) | refine Or.inr (And.intro rfl ?_) | refine And.intro (fun (_ : true = true) => ?_) (fun (h : true = false) => Bool.noConfusion h) | refine And.intro (fun (h : false = true) => Bool.noConfusion h) (fun (_ : false = false) => ?_)
    refine And.intro (show _ ∧ _ ∧ _ ∧ _ ∧ _ ∧ DivFit _ from ⟨by decide, by decide, by decide, by decide, by decide, trivial⟩) ?_
    generalize eze : mkRat (sg _ _) _ = ze
    have vze : ze = 0 := by rw [← eze]; decide +kernel
    have zze : Sz 1 ze := by rw [vze]; exact szB (by decide +kernel)
    have qze := rq_cq ze
    repeat first | refine And.intro rfl ?_ | refine And.intro True.intro ?_ | refine Or.inl (And.intro rfl ?_) | refine Or.inr (And.intro rfl ?_) | refine And.intro (fun (_ : true = true) => ?_) (fun (h : true = false) => Bool.noConfusion h) | refine And.intro (fun (h : false = true) => Bool.noConfusion h) (fun (_ : false = false) => ?_)
    refine And.intro (show _ ∧ _ ∧ _ ∧ _ ∧ _ ∧ DivFit _ from ⟨by decide, by decide, by decide, by decide, by decide, trivial⟩) ?_
    generalize eun : mkRat (sg _ _) _ = un
    have vun : un = 1 := by rw [← eun]; decide +kernel
    have zun : Sz 1 un := by rw [vun]; exact szB (by decide +kernel)
    have qun := rq_cq un
    repeat first | refine And.intro rfl ?_ | refine And.intro True.intro ?_ | refine Or.inl (And.intro rfl ?_) | refine Or.inr (And.intro rfl ?_) | refine And.intro (fun (_ : true = true) => ?_) (fun (h : true = false) => Bool.noConfusion h) | refine And.intro (fun (h : false = true) => Bool.noConfusion h) (fun (_ : false = false) => ?_)
    refine And.intro (show IsP c ∧ (4 : Int) ≤ 1000 from ⟨hp, by decide⟩) ?_
    repeat first | refine And.intro rfl ?_ | refine And.intro True.intro ?_ | refine Or.inl (And.intro rfl ?_) | refine Or.inr (And.intro rfl ?_) | refine And.intro (fun (_ : true = true) => ?_) (fun (h : true = false) => Bool.noConfusion h) | refine And.intro (fun (h : false = true) => Bool.noConfusion h) (fun (_ : false = false) => ?_)
    cases hL : (decide ((c.length : Int) ≤ 4) && (ptsOf c).all (lightPR 4)) with
    | false =>
      refine Or.inr (And.intro rfl ?_)
      repeat first | refine And.intro rfl ?_ | refine And.intro True.intro ?_ | refine Or.inl (And.intro rfl ?_) | refine Or.inr (And.intro rfl ?_) | refine And.intro (fun (_ : true = true) => ?_) (fun (h : true = false) => Bool.noConfusion h) | refine And.intro (fun (h : false = true) => Bool.noConfusion h) (fun (_ : false = false) => ?_)
      rfl
    | true =>
      refine Or.inl (And.intro rfl ?_)
      obtain ⟨h4, ps, rfl, hpl, hps⟩ := light_c (m := 4) (n := 4) hp hL
      rw [← hpl] at h4
      have hlm := lm_of hlim.1
      repeat first | refine And.intro rfl ?_ | refine And.intro True.intro ?_ | refine Or.inl (And.intro rfl ?_) | refine Or.inr (And.intro rfl ?_) | refine And.intro (fun (_ : true = true) => ?_) (fun (h : true = false) => Bool.noConfusion h) | refine And.intro (fun (h : false = true) => Bool.noConfusion h) (fun (_ : false = false) => ?_)
      by_cases hT : (l.length : Int) ≤ 3 ∧ (t.length : Int) ≤ 3
      case neg =>
        refine Or.inr (And.intro (show (!decide ((l.length : Int) ≤ 3 ∧ (t.length : Int) ≤ 3)) = true by simp [hT]) ?_)
        repeat first | refine And.intro rfl ?_ | refine And.intro True.intro ?_ | refine Or.inl (And.intro rfl ?_) | refine Or.inr (And.intro rfl ?_) | refine And.intro (fun (_ : true = true) => ?_) (fun (h : true = false) => Bool.noConfusion h) | refine And.intro (fun (h : false = true) => Bool.noConfusion h) (fun (_ : false = false) => ?_)
        rfl
      refine Or.inl (And.intro (show (!decide ((l.length : Int) ≤ 3 ∧ (t.length : Int) ≤ 3)) = false by simp [hT]) ?_)
      repeat first | refine And.intro rfl ?_ | refine And.intro True.intro ?_ | refine Or.inl (And.intro rfl ?_) | refine Or.inr (And.intro rfl ?_) | refine And.intro (fun (_ : true = true) => ?_) (fun (h : true = false) => Bool.noConfusion h) | refine And.intro (fun (h : false = true) => Bool.noConfusion h) (fun (_ : false = false) => ?_)
      by_cases hU : ((((ps.map ptB).length : Nat) : Int) < 2)
      case pos =>
        refine Or.inr (And.intro (show decide ((((ps.map ptB).length : Nat) : Int) < 2) = true from decide_eq_true hU) ?_)
        repeat first | refine And.intro rfl ?_ | refine And.intro True.intro ?_ | refine Or.inl (And.intro rfl ?_) | refine Or.inr (And.intro rfl ?_) | refine And.intro (fun (_ : true = true) => ?_) (fun (h : true = false) => Bool.noConfusion h) | refine And.intro (fun (h : false = true) => Bool.noConfusion h) (fun (_ : false = false) => ?_)
        rfl
      refine Or.inl (And.intro (show decide ((((ps.map ptB).length : Nat) : Int) < 2) = false from decide_eq_false hU) ?_)
      have h2 : 2 ≤ ps.length := by
        rw [List.length_map] at hU
        omega
      have oc := okC_ps h2 h4
      have vc := valsOf_B ps
      have svs := sp_vals hlm hps
      have hz := Sz.rq (s := s) (n := 3) hl ht (by omega) (by omega)
      obtain ⟨q, hq⟩ : ∃ q, q = rq s l t := ⟨_, rfl⟩
      rw [← hq] at hz
      obtain ⟨vs, hvs⟩ : ∃ vs, vs = ps.map PR.v := ⟨_, rfl⟩
      have hvl : vs.length = ps.length := by rw [hvs, List.length_map]
      rw [← hvs] at vc svs
      have v2 : 2 ≤ vs.length := by omega
      have v4 : vs.length ≤ 4 := by omega
      repeat first | refine And.intro rfl ?_ | refine And.intro True.intro ?_ | refine Or.inl (And.intro rfl ?_) | refine Or.inr (And.intro rfl ?_) | refine And.intro (fun (_ : true = true) => ?_) (fun (h : true = false) => Bool.noConfusion h) | refine And.intro (fun (h : false = true) => Bool.noConfusion h) (fun (_ : false = false) => ?_)
      refine And.intro (show InR 0 from ⟨by decide, by decide⟩) ?_
      generalize ez : (((0 : Int)) : Rat) = Z
      have zZ := whole_sz (show InR 0 from ⟨by decide, by decide⟩)
      rw [ez] at zZ
      have vZ : Z = 0 := by rw [← ez]; rfl
      have qZ := rq_cq Z
      repeat first | refine And.intro rfl ?_ | refine And.intro True.intro ?_ | refine Or.inl (And.intro rfl ?_) | refine Or.inr (And.intro rfl ?_) | refine And.intro (fun (_ : true = true) => ?_) (fun (h : true = false) => Bool.noConfusion h) | refine And.intro (fun (h : false = true) => Bool.noConfusion h) (fun (_ : false = false) => ?_)
      refine And.intro (And.intro (show l.length ≤ 40000 by omega) (And.intro (show t.length ≤ 40000 by omega) (And.intro (zZ.lenN (by decide)) (zZ.lenD (by decide))))) ?_
      rw [qZ, ← hq]
      repeat first | refine And.intro rfl ?_ | refine And.intro True.intro ?_ | refine Or.inl (And.intro rfl ?_) | refine Or.inr (And.intro rfl ?_) | refine And.intro (fun (_ : true = true) => ?_) (fun (h : true = false) => Bool.noConfusion h) | refine And.intro (fun (h : false = true) => Bool.noConfusion h) (fun (_ : false = false) => ?_)
      by_cases hlt : q < Z
      case pos =>
        refine Or.inr (And.intro (show decide (cmpQ q Z < 0) = true by rw [cmpQ_neg]; exact decide_eq_true hlt) ?_)
        repeat first | refine And.intro rfl ?_ | refine And.intro True.intro ?_ | refine Or.inl (And.intro rfl ?_) | refine Or.inr (And.intro rfl ?_) | refine And.intro (fun (_ : true = true) => ?_) (fun (h : true = false) => Bool.noConfusion h) | refine And.intro (fun (h : false = true) => Bool.noConfusion h) (fun (_ : false = false) => ?_)
        rfl
      refine Or.inl (And.intro (show decide (cmpQ q Z < 0) = false by rw [cmpQ_neg]; exact decide_eq_false hlt) ?_)
      repeat first | refine And.intro rfl ?_ | refine And.intro True.intro ?_ | refine Or.inl (And.intro rfl ?_) | refine Or.inr (And.intro rfl ?_) | refine And.intro (fun (_ : true = true) => ?_) (fun (h : true = false) => Bool.noConfusion h) | refine And.intro (fun (h : false = true) => Bool.noConfusion h) (fun (_ : false = false) => ?_)
      refine And.intro (show InR 1 from ⟨by decide, by decide⟩) ?_
      generalize eo : (((1 : Int)) : Rat) = O
      have zO := whole_sz (show InR 1 from ⟨by decide, by decide⟩)
      rw [eo] at zO
      have vO : O = 1 := by rw [← eo]; rfl
      have qO := rq_cq O
      repeat first | refine And.intro rfl ?_ | refine And.intro True.intro ?_ | refine Or.inl (And.intro rfl ?_) | refine Or.inr (And.intro rfl ?_) | refine And.intro (fun (_ : true = true) => ?_) (fun (h : true = false) => Bool.noConfusion h) | refine And.intro (fun (h : false = true) => Bool.noConfusion h) (fun (_ : false = false) => ?_)
      refine And.intro (And.intro (show l.length ≤ 40000 by omega) (And.intro (show t.length ≤ 40000 by omega) (And.intro (zO.lenN (by decide)) (zO.lenD (by decide))))) ?_
      rw [qO, ← hq]
      repeat first | refine And.intro rfl ?_ | refine And.intro True.intro ?_ | refine Or.inl (And.intro rfl ?_) | refine Or.inr (And.intro rfl ?_) | refine And.intro (fun (_ : true = true) => ?_) (fun (h : true = false) => Bool.noConfusion h) | refine And.intro (fun (h : false = true) => Bool.noConfusion h) (fun (_ : false = false) => ?_)
      refine And.intro (fun hc => ?_) (fun hc => ?_)
      · repeat first | refine And.intro rfl ?_ | refine And.intro True.intro ?_ | refine Or.inl (And.intro rfl ?_) | refine Or.inr (And.intro rfl ?_) | refine And.intro (fun (_ : true = true) => ?_) (fun (h : true = false) => Bool.noConfusion h) | refine And.intro (fun (h : false = true) => Bool.noConfusion h) (fun (_ : false = false) => ?_)
        rfl
      have hgt : ¬ O < q := by
        have hc : decide (cmpQ q O > 0) = false := hc
        rw [cmpQ_pos] at hc
        exact of_decide_eq_false hc
      have q0 : 0 ≤ q := by rw [vZ] at hlt; grind
      have q1 : q ≤ 1 := by rw [vO] at hgt; grind
      have hbox := box_bez (l := vs) v2 v4 q0 q1
      have hbs := box_sp v2 svs
      repeat first | refine And.intro rfl ?_ | refine And.intro True.intro ?_ | refine Or.inl (And.intro rfl ?_) | refine Or.inr (And.intro rfl ?_) | refine And.intro (fun (_ : true = true) => ?_) (fun (h : true = false) => Bool.noConfusion h) | refine And.intro (fun (h : false = true) => Bool.noConfusion h) (fun (_ : false = false) => ?_)
      refine And.intro (And.intro (sh_ps hps (by decide)) (And.intro (show l.length ≤ 300 by omega) (show t.length ≤ 300 by omega))) ?_
      rw [oc, vc, ← hq]
      have sP : Sp 226 (bez vs q) := (bez_sp3 hz v2 v4 svs).mono (by decide +kernel)
      generalize bez vs q = P at sP hbox
      repeat first | refine And.intro rfl ?_ | refine And.intro True.intro ?_ | refine Or.inl (And.intro rfl ?_) | refine Or.inr (And.intro rfl ?_) | refine And.intro (fun (_ : true = true) => ?_) (fun (h : true = false) => Bool.noConfusion h) | refine And.intro (fun (h : false = true) => Bool.noConfusion h) (fun (_ : false = false) => ?_)
      refine And.intro (sh_ps hps (by decide)) ?_
      rw [oc, vc]
      generalize boxLo vs = lo at hbs hbox
      generalize boxHi vs = hi at hbs hbox
      obtain ⟨sLo, sHi⟩ := hbs
      obtain ⟨⟨b1, b2⟩, b3, b4⟩ := hbox
      have qp1 : rq (bif !true then false else decide ((P.1).num < 0)) (bif !true then [] else dg (P.1).num.natAbs) (bif !true then [] else dg (P.1).den) = P.1 := rq_cq (P.1)
      have qp2 : rq (bif !true then false else decide ((P.2).num < 0)) (bif !true then [] else dg (P.2).num.natAbs) (bif !true then [] else dg (P.2).den) = P.2 := rq_cq (P.2)
      have ql1 : rq (bif !true then false else decide ((lo.1).num < 0)) (bif !true then [] else dg (lo.1).num.natAbs) (bif !true then [] else dg (lo.1).den) = lo.1 := rq_cq (lo.1)
      have ql2 : rq (bif !true then false else decide ((lo.2).num < 0)) (bif !true then [] else dg (lo.2).num.natAbs) (bif !true then [] else dg (lo.2).den) = lo.2 := rq_cq (lo.2)
      have qh1 : rq (bif !true then false else decide ((hi.1).num < 0)) (bif !true then [] else dg (hi.1).num.natAbs) (bif !true then [] else dg (hi.1).den) = hi.1 := rq_cq (hi.1)
      have qh2 : rq (bif !true then false else decide ((hi.2).num < 0)) (bif !true then [] else dg (hi.2).num.natAbs) (bif !true then [] else dg (hi.2).den) = hi.2 := rq_cq (hi.2)
      repeat first | refine And.intro rfl ?_ | refine And.intro True.intro ?_ | refine Or.inl (And.intro rfl ?_) | refine Or.inr (And.intro rfl ?_) | refine And.intro (fun (_ : true = true) => ?_) (fun (h : true = false) => Bool.noConfusion h) | refine And.intro (fun (h : false = true) => Bool.noConfusion h) (fun (_ : false = false) => ?_)
      refine And.intro (And.intro (zze.lenN (by decide)) (And.intro (zze.lenD (by decide)) (And.intro (zun.lenN (by decide)) (zun.lenD (by decide))))) ?_
      rw [qze, qun]
      have hcz : (!(cmpQ ze un == -1)) = false := by rw [vze, vun]; decide +kernel
      repeat first | refine And.intro rfl ?_ | refine And.intro True.intro ?_ | refine Or.inl (And.intro rfl ?_) | refine Or.inr (And.intro rfl ?_) | refine And.intro (fun (_ : true = true) => ?_) (fun (h : true = false) => Bool.noConfusion h) | refine And.intro (fun (h : false = true) => Bool.noConfusion h) (fun (_ : false = false) => ?_)
      refine And.intro (fun hc => Bool.noConfusion (hcz.symm.trans hc)) (fun _ => ?_)
      repeat first | refine And.intro rfl ?_ | refine And.intro True.intro ?_ | refine Or.inl (And.intro rfl ?_) | refine Or.inr (And.intro rfl ?_) | refine And.intro (fun (_ : true = true) => ?_) (fun (h : true = false) => Bool.noConfusion h) | refine And.intro (fun (h : false = true) => Bool.noConfusion h) (fun (_ : false = false) => ?_)
      refine And.intro (And.intro (sLo.1.lenN (by decide)) (And.intro (sLo.1.lenD (by decide)) (And.intro (sP.1.lenN (by decide)) (sP.1.lenD (by decide))))) ?_
      rw [ql1, qp1]
      repeat first | refine And.intro rfl ?_ | refine And.intro True.intro ?_ | refine Or.inl (And.intro rfl ?_) | refine Or.inr (And.intro rfl ?_) | refine And.intro (fun (_ : true = true) => ?_) (fun (h : true = false) => Bool.noConfusion h) | refine And.intro (fun (h : false = true) => Bool.noConfusion h) (fun (_ : false = false) => ?_)
      refine Or.inl (And.intro (cmpQ_le b1) ?_)
      repeat first | refine And.intro rfl ?_ | refine And.intro True.intro ?_ | refine Or.inl (And.intro rfl ?_) | refine Or.inr (And.intro rfl ?_) | refine And.intro (fun (_ : true = true) => ?_) (fun (h : true = false) => Bool.noConfusion h) | refine And.intro (fun (h : false = true) => Bool.noConfusion h) (fun (_ : false = false) => ?_)
      refine And.intro (And.intro (sP.1.lenN (by decide)) (And.intro (sP.1.lenD (by decide)) (And.intro (sHi.1.lenN (by decide)) (sHi.1.lenD (by decide))))) ?_
      rw [qp1, qh1]
      repeat first | refine And.intro rfl ?_ | refine And.intro True.intro ?_ | refine Or.inl (And.intro rfl ?_) | refine Or.inr (And.intro rfl ?_) | refine And.intro (fun (_ : true = true) => ?_) (fun (h : true = false) => Bool.noConfusion h) | refine And.intro (fun (h : false = true) => Bool.noConfusion h) (fun (_ : false = false) => ?_)
      refine Or.inl (And.intro (cmpQ_le b3) ?_)
      repeat first | refine And.intro rfl ?_ | refine And.intro True.intro ?_ | refine Or.inl (And.intro rfl ?_) | refine Or.inr (And.intro rfl ?_) | refine And.intro (fun (_ : true = true) => ?_) (fun (h : true = false) => Bool.noConfusion h) | refine And.intro (fun (h : false = true) => Bool.noConfusion h) (fun (_ : false = false) => ?_)
      refine And.intro (And.intro (sLo.2.lenN (by decide)) (And.intro (sLo.2.lenD (by decide)) (And.intro (sP.2.lenN (by decide)) (sP.2.lenD (by decide))))) ?_
      rw [ql2, qp2]
      repeat first | refine And.intro rfl ?_ | refine And.intro True.intro ?_ | refine Or.inl (And.intro rfl ?_) | refine Or.inr (And.intro rfl ?_) | refine And.intro (fun (_ : true = true) => ?_) (fun (h : true = false) => Bool.noConfusion h) | refine And.intro (fun (h : false = true) => Bool.noConfusion h) (fun (_ : false = false) => ?_)
      refine Or.inl (And.intro (cmpQ_le b2) ?_)
      repeat first | refine And.intro rfl ?_ | refine And.intro True.intro ?_ | refine Or.inl (And.intro rfl ?_) | refine Or.inr (And.intro rfl ?_) | refine And.intro (fun (_ : true = true) => ?_) (fun (h : true = false) => Bool.noConfusion h) | refine And.intro (fun (h : false = true) => Bool.noConfusion h) (fun (_ : false = false) => ?_)
      refine And.intro (And.intro (sP.2.lenN (by decide)) (And.intro (sP.2.lenD (by decide)) (And.intro (sHi.2.lenN (by decide)) (sHi.2.lenD (by decide))))) ?_
      rw [qp2, qh2]
      repeat first | refine And.intro rfl ?_ | refine And.intro True.intro ?_ | refine Or.inl (And.intro rfl ?_) | refine Or.inr (And.intro rfl ?_) | refine And.intro (fun (_ : true = true) => ?_) (fun (h : true = false) => Bool.noConfusion h) | refine And.intro (fun (h : false = true) => Bool.noConfusion h) (fun (_ : false = false) => ?_)
      refine Or.inl (And.intro (cmpQ_le b4) ?_)
      repeat first | refine And.intro rfl ?_ | refine And.intro True.intro ?_ | refine Or.inl (And.intro rfl ?_) | refine Or.inr (And.intro rfl ?_) | refine And.intro (fun (_ : true = true) => ?_) (fun (h : true = false) => Bool.noConfusion h) | refine And.intro (fun (h : false = true) => Bool.noConfusion h) (fun (_ : false = false) => ?_)
      rfl
  · cases h

end Go.Gm

