/-
  The statements about points: PointMirror. Plain theorems; no condition.
-/
import Derived.Test.YtihmifpdnipdmaaLawP
import Derived.Test.YtihmifpdnipdmaaPtE
set_option linter.all false
namespace Go.Gm
open Go.Proofs


attribute [local irreducible] mkRat rq meetD meetQ footD footQ mirQ rnd grdB cmpQ samePR lightPR

def sPointMirror : List RV → Option (Prop × Res)
  | [.agg [.b (.val (.bool s0)), .b (.nat l0), .b (.nat t0), .b (.val (.bool z0)), .b (.nat k0), .b (.nat u0)], .agg [.b (.val (.bool s1)), .b (.nat l1), .b (.nat t1), .b (.val (.bool z1)), .b (.nat k1), .b (.nat u1)], .agg [.b (.val (.bool s2)), .b (.nat l2), .b (.nat t2), .b (.val (.bool z2)), .b (.nat k2), .b (.nat u2)]] => some (True, .r (.val (.bool true)))
  | _ => none

set_option maxRecDepth 20000 in
set_option maxHeartbeats 8000000 in
theorem ok_PointMirror : Ok1 18 sPointMirror := by
  refine ok_of TW1_ok Try.func18 rfl (by kernel_rfl) ?_
  intro xs pre res h hp hlim
  unfold sPointMirror at h
  split at h
  · rename_i s0 l0 t0 z0 k0 u0 s1 l1 t1 z1 k1 u1 s2 l2 t2 z2 k2 u2
    cases h
    refine And.intro (Nat.le_of_ble_eq_true rfl) ?_
    repeat first | refine And.intro rfl ?_ | refine Or.inl (And.intro rfl ?_) | refine Or.inr (And.intro rfl ?_) | refine And.intro (fun (_ : true = true) => ?_) (fun (h : true = false) => Bool.noConfusion h) | refine And.intro (fun (h : false = true) => Bool.noConfusion h) (fun (_ : false = false) => ?_)
    repeat first | refine And.intro rfl ?_ | refine And.intro True.intro ?_ | refine Or.inl (And.intro rfl ?_) | refine Or.inr (And.intro rfl ?_) | refine And.intro (fun (_ : true = true) => ?_) (fun (h : true = false) => Bool.noConfusion h) | refine And.intro (fun (h : false = true) => Bool.noConfusion h) (fun (_ : false = false) => ?_)
    by_cases g0 : (lightPR 3 ⟨s0, l0, t0, z0, k0, u0⟩) = true
    case neg =>
      refine Or.inr (And.intro (show (!(lightPR 3 ⟨s0, l0, t0, z0, k0, u0⟩)) = true by simp [g0]) ?_)
      repeat first | refine And.intro rfl ?_ | refine And.intro True.intro ?_ | refine Or.inl (And.intro rfl ?_) | refine Or.inr (And.intro rfl ?_) | refine And.intro (fun (_ : true = true) => ?_) (fun (h : true = false) => Bool.noConfusion h) | refine And.intro (fun (h : false = true) => Bool.noConfusion h) (fun (_ : false = false) => ?_)
      rfl
    refine Or.inl (And.intro (show (!(lightPR 3 ⟨s0, l0, t0, z0, k0, u0⟩)) = false by simp [g0]) ?_)
    repeat first | refine And.intro rfl ?_ | refine And.intro True.intro ?_ | refine Or.inl (And.intro rfl ?_) | refine Or.inr (And.intro rfl ?_) | refine And.intro (fun (_ : true = true) => ?_) (fun (h : true = false) => Bool.noConfusion h) | refine And.intro (fun (h : false = true) => Bool.noConfusion h) (fun (_ : false = false) => ?_)
    by_cases g1 : (lightPR 3 ⟨s1, l1, t1, z1, k1, u1⟩) = true
    case neg =>
      refine Or.inr (And.intro (show (!(lightPR 3 ⟨s1, l1, t1, z1, k1, u1⟩)) = true by simp [g1]) ?_)
      repeat first | refine And.intro rfl ?_ | refine And.intro True.intro ?_ | refine Or.inl (And.intro rfl ?_) | refine Or.inr (And.intro rfl ?_) | refine And.intro (fun (_ : true = true) => ?_) (fun (h : true = false) => Bool.noConfusion h) | refine And.intro (fun (h : false = true) => Bool.noConfusion h) (fun (_ : false = false) => ?_)
      rfl
    refine Or.inl (And.intro (show (!(lightPR 3 ⟨s1, l1, t1, z1, k1, u1⟩)) = false by simp [g1]) ?_)
    repeat first | refine And.intro rfl ?_ | refine And.intro True.intro ?_ | refine Or.inl (And.intro rfl ?_) | refine Or.inr (And.intro rfl ?_) | refine And.intro (fun (_ : true = true) => ?_) (fun (h : true = false) => Bool.noConfusion h) | refine And.intro (fun (h : false = true) => Bool.noConfusion h) (fun (_ : false = false) => ?_)
    refine And.intro (fun hc => ?_) (fun hc => ?_)
    · repeat first | refine And.intro rfl ?_ | refine And.intro True.intro ?_ | refine Or.inl (And.intro rfl ?_) | refine Or.inr (And.intro rfl ?_) | refine And.intro (fun (_ : true = true) => ?_) (fun (h : true = false) => Bool.noConfusion h) | refine And.intro (fun (h : false = true) => Bool.noConfusion h) (fun (_ : false = false) => ?_)
      rfl
    have g2 : (lightPR 3 ⟨s2, l2, t2, z2, k2, u2⟩) = true := by
      have hc : (!(lightPR 3 ⟨s2, l2, t2, z2, k2, u2⟩)) = false := hc
      simpa using hc
    have w0 := lightPR_le (n := 3) g0
    obtain ⟨hl0, ht0, hk0, hu0⟩ := w0
    have hl0 : l0.length ≤ 3 := hl0
    have ht0 : t0.length ≤ 3 := ht0
    have hk0 : k0.length ≤ 3 := hk0
    have hu0 : u0.length ≤ 3 := hu0
    have iX0 : Szc (rq s0 l0 t0) (3 + 1) := ⟨Sz.rq hlim.1.2.1 hlim.1.2.2.1 hl0 ht0⟩
    have iY0 : Szc (rq z0 k0 u0) (3 + 1) := ⟨Sz.rq hlim.1.2.2.2.2.1 hlim.1.2.2.2.2.2.1 hk0 hu0⟩
    have w1 := lightPR_le (n := 3) g1
    obtain ⟨hl1, ht1, hk1, hu1⟩ := w1
    have hl1 : l1.length ≤ 3 := hl1
    have ht1 : t1.length ≤ 3 := ht1
    have hk1 : k1.length ≤ 3 := hk1
    have hu1 : u1.length ≤ 3 := hu1
    have iX1 : Szc (rq s1 l1 t1) (3 + 1) := ⟨Sz.rq hlim.2.1.2.1 hlim.2.1.2.2.1 hl1 ht1⟩
    have iY1 : Szc (rq z1 k1 u1) (3 + 1) := ⟨Sz.rq hlim.2.1.2.2.2.2.1 hlim.2.1.2.2.2.2.2.1 hk1 hu1⟩
    have w2 := lightPR_le (n := 3) g2
    obtain ⟨hl2, ht2, hk2, hu2⟩ := w2
    have hl2 : l2.length ≤ 3 := hl2
    have ht2 : t2.length ≤ 3 := ht2
    have hk2 : k2.length ≤ 3 := hk2
    have hu2 : u2.length ≤ 3 := hu2
    have iX2 : Szc (rq s2 l2 t2) (3 + 1) := ⟨Sz.rq hlim.2.2.1.2.1 hlim.2.2.1.2.2.1 hl2 ht2⟩
    have iY2 : Szc (rq z2 k2 u2) (3 + 1) := ⟨Sz.rq hlim.2.2.1.2.2.2.2.1 hlim.2.2.1.2.2.2.2.2.1 hk2 hu2⟩
    repeat first | refine And.intro rfl ?_ | refine And.intro True.intro ?_ | refine Or.inl (And.intro rfl ?_) | refine Or.inr (And.intro rfl ?_) | refine And.intro (fun (_ : true = true) => ?_) (fun (h : true = false) => Bool.noConfusion h) | refine And.intro (fun (h : false = true) => Bool.noConfusion h) (fun (_ : false = false) => ?_)
    by_cases hz : footD (rq s1 l1 t1, rq z1 k1 u1) (rq s2 l2 t2, rq z2 k2 u2) = 0
    case pos =>
      obtain ⟨e1, e2⟩ := footD_zero.1 hz
      refine And.intro ?pre ?_
      case pre =>
        repeat' refine And.intro ?_ ?_
        all_goals first | exact lenN_of (by decide) | exact lenD_of (by decide) | assumption | exact trivial | exact Nat.zero_le _ | omega
      rw [decide_eq_true hz]
      generalize mirQ (rq s0 l0 t0, rq z0 k0 u0) (rq s1 l1 t1, rq z1 k1 u1) (rq s2 l2 t2, rq z2 k2 u2) = m
      repeat first | refine And.intro rfl ?_ | refine And.intro True.intro ?_ | refine Or.inl (And.intro rfl ?_) | refine Or.inr (And.intro rfl ?_) | refine And.intro (fun (_ : true = true) => ?_) (fun (h : true = false) => Bool.noConfusion h) | refine And.intro (fun (h : false = true) => Bool.noConfusion h) (fun (_ : false = false) => ?_)
      refine And.intro ?pre ?_
      case pre =>
        repeat' refine And.intro ?_ ?_
        all_goals first | exact lenN_of (by decide) | exact lenD_of (by decide) | assumption | exact trivial | exact Nat.zero_le _ | omega
      rw [decide_eq_true hz]
      generalize footQ (rq s0 l0 t0, rq z0 k0 u0) (rq s1 l1 t1, rq z1 k1 u1) (rq s2 l2 t2, rq z2 k2 u2) = f
      repeat first | refine And.intro rfl ?_ | refine And.intro True.intro ?_ | refine Or.inl (And.intro rfl ?_) | refine Or.inr (And.intro rfl ?_) | refine And.intro (fun (_ : true = true) => ?_) (fun (h : true = false) => Bool.noConfusion h) | refine And.intro (fun (h : false = true) => Bool.noConfusion h) (fun (_ : false = false) => ?_)
      refine And.intro ?pre ?_
      case pre =>
        repeat' refine And.intro ?_ ?_
        all_goals first | exact lenN_of (by decide) | exact lenD_of (by decide) | assumption | exact trivial | exact Nat.zero_le _ | omega
      rw [decide_eq_true (show rq s1 l1 t1 = rq s2 l2 t2 ∧ rq z1 k1 u1 = rq z2 k2 u2 from ⟨e1, e2⟩)]
      repeat first | refine And.intro rfl ?_ | refine And.intro True.intro ?_ | refine Or.inl (And.intro rfl ?_) | refine Or.inr (And.intro rfl ?_) | refine And.intro (fun (_ : true = true) => ?_) (fun (h : true = false) => Bool.noConfusion h) | refine And.intro (fun (h : false = true) => Bool.noConfusion h) (fun (_ : false = false) => ?_)
      refine And.intro ?pre ?_
      case pre =>
        repeat' refine And.intro ?_ ?_
        all_goals first | exact lenN_of (by decide) | exact lenD_of (by decide) | assumption | exact trivial | exact Nat.zero_le _ | omega
      repeat first | refine And.intro rfl ?_ | refine And.intro True.intro ?_ | refine Or.inl (And.intro rfl ?_) | refine Or.inr (And.intro rfl ?_) | refine And.intro (fun (_ : true = true) => ?_) (fun (h : true = false) => Bool.noConfusion h) | refine And.intro (fun (h : false = true) => Bool.noConfusion h) (fun (_ : false = false) => ?_)
      refine Or.inl (And.intro (show samePR _ _ = true from samePR_iff.2 rfl) ?_)
      repeat first | refine And.intro rfl ?_ | refine And.intro True.intro ?_ | refine Or.inl (And.intro rfl ?_) | refine Or.inr (And.intro rfl ?_) | refine And.intro (fun (_ : true = true) => ?_) (fun (h : true = false) => Bool.noConfusion h) | refine And.intro (fun (h : false = true) => Bool.noConfusion h) (fun (_ : false = false) => ?_)
      refine And.intro ?pre ?_
      case pre =>
        repeat' refine And.intro ?_ ?_
        all_goals first | exact lenN_of (by decide) | exact lenD_of (by decide) | assumption | exact trivial | exact Nat.zero_le _ | omega
      repeat first | refine And.intro rfl ?_ | refine And.intro True.intro ?_ | refine Or.inl (And.intro rfl ?_) | refine Or.inr (And.intro rfl ?_) | refine And.intro (fun (_ : true = true) => ?_) (fun (h : true = false) => Bool.noConfusion h) | refine And.intro (fun (h : false = true) => Bool.noConfusion h) (fun (_ : false = false) => ?_)
      refine Or.inl (And.intro (show samePR _ _ = true from samePR_iff.2 rfl) ?_)
      repeat first | refine And.intro rfl ?_ | refine And.intro True.intro ?_ | refine Or.inl (And.intro rfl ?_) | refine Or.inr (And.intro rfl ?_) | refine And.intro (fun (_ : true = true) => ?_) (fun (h : true = false) => Bool.noConfusion h) | refine And.intro (fun (h : false = true) => Bool.noConfusion h) (fun (_ : false = false) => ?_)
      rfl
    have hm : Sp 196 (mirQ (rq s0 l0 t0, rq z0 k0 u0) (rq s1 l1 t1, rq z1 k1 u1) (rq s2 l2 t2, rq z2 k2 u2)) := mir_sz4 ⟨iX0.sz, iY0.sz⟩ ⟨iX1.sz, iY1.sz⟩ ⟨iX2.sz, iY2.sz⟩
    generalize em : mirQ (rq s0 l0 t0, rq z0 k0 u0) (rq s1 l1 t1, rq z1 k1 u1) (rq s2 l2 t2, rq z2 k2 u2) = m at hm
    obtain ⟨mA, mB⟩ := m
    have imA : Szc mA 196 := ⟨hm.1⟩
    have imB : Szc mB 196 := ⟨hm.2⟩
    have qmA := rq_cq mA
    have qmB := rq_cq mB
    have hf : Sp 95 (footQ (rq s0 l0 t0, rq z0 k0 u0) (rq s1 l1 t1, rq z1 k1 u1) (rq s2 l2 t2, rq z2 k2 u2)) := foot_sz4 ⟨iX0.sz, iY0.sz⟩ ⟨iX1.sz, iY1.sz⟩ ⟨iX2.sz, iY2.sz⟩
    generalize ef : footQ (rq s0 l0 t0, rq z0 k0 u0) (rq s1 l1 t1, rq z1 k1 u1) (rq s2 l2 t2, rq z2 k2 u2) = f at hf
    obtain ⟨fA, fB⟩ := f
    have ifA : Szc fA 95 := ⟨hf.1⟩
    have ifB : Szc fB 95 := ⟨hf.2⟩
    have qfA := rq_cq fA
    have qfB := rq_cq fB
    have dzf : ∀ p : Rat × Rat, dz false p = cq p.1 ++ cq p.2 := fun _ => rfl
    refine And.intro ?pre ?_
    case pre =>
      repeat' refine And.intro ?_ ?_
      all_goals first | exact lenN_of (by decide) | exact lenD_of (by decide) | assumption | exact trivial | exact Nat.zero_le _ | omega
    rw [decide_eq_false hz, em]
    simp only [dzf]
    repeat first | refine And.intro rfl ?_ | refine And.intro True.intro ?_ | refine Or.inl (And.intro rfl ?_) | refine Or.inr (And.intro rfl ?_) | refine And.intro (fun (_ : true = true) => ?_) (fun (h : true = false) => Bool.noConfusion h) | refine And.intro (fun (h : false = true) => Bool.noConfusion h) (fun (_ : false = false) => ?_)
    refine And.intro ?pre ?_
    case pre =>
      repeat' refine And.intro ?_ ?_
      all_goals first | exact lenN_of (by decide) | exact lenD_of (by decide) | assumption | exact trivial | exact Nat.zero_le _ | omega
    rw [decide_eq_false hz, ef]
    simp only [dzf]
    repeat first | refine And.intro rfl ?_ | refine And.intro True.intro ?_ | refine Or.inl (And.intro rfl ?_) | refine Or.inr (And.intro rfl ?_) | refine And.intro (fun (_ : true = true) => ?_) (fun (h : true = false) => Bool.noConfusion h) | refine And.intro (fun (h : false = true) => Bool.noConfusion h) (fun (_ : false = false) => ?_)
    refine And.intro ?pre ?_
    case pre =>
      repeat' refine And.intro ?_ ?_
      all_goals first | exact lenN_of (by decide) | exact lenD_of (by decide) | assumption | exact trivial | exact Nat.zero_le _ | omega
    rw [decide_eq_false (show ¬ (rq s1 l1 t1 = rq s2 l2 t2 ∧ rq z1 k1 u1 = rq z2 k2 u2) from fun h => hz (footD_zero.2 h))]
    repeat first | refine And.intro rfl ?_ | refine And.intro True.intro ?_ | refine Or.inl (And.intro rfl ?_) | refine Or.inr (And.intro rfl ?_) | refine And.intro (fun (_ : true = true) => ?_) (fun (h : true = false) => Bool.noConfusion h) | refine And.intro (fun (h : false = true) => Bool.noConfusion h) (fun (_ : false = false) => ?_)
    refine And.intro ?pre ?_
    case pre =>
      repeat' refine And.intro ?_ ?_
      all_goals first | exact lenN_of (by decide) | exact lenD_of (by decide) | assumption | exact trivial | exact Nat.zero_le _ | omega
    rw [decide_eq_false hz, qmA, qmB, show mirQ (mA, mB) (rq s1 l1 t1, rq z1 k1 u1) (rq s2 l2 t2, rq z2 k2 u2) = (rq s0 l0 t0, rq z0 k0 u0) by rw [← em]; exact mir_back hz]
    simp only [dzf]
    repeat first | refine And.intro rfl ?_ | refine And.intro True.intro ?_ | refine Or.inl (And.intro rfl ?_) | refine Or.inr (And.intro rfl ?_) | refine And.intro (fun (_ : true = true) => ?_) (fun (h : true = false) => Bool.noConfusion h) | refine And.intro (fun (h : false = true) => Bool.noConfusion h) (fun (_ : false = false) => ?_)
    refine And.intro ?pre ?_
    case pre =>
      repeat' refine And.intro ?_ ?_
      all_goals first | exact lenN_of (by decide) | exact lenD_of (by decide) | assumption | exact trivial | exact Nat.zero_le _ | omega
    rw [rq_cq, rq_cq]
    repeat first | refine And.intro rfl ?_ | refine And.intro True.intro ?_ | refine Or.inl (And.intro rfl ?_) | refine Or.inr (And.intro rfl ?_) | refine And.intro (fun (_ : true = true) => ?_) (fun (h : true = false) => Bool.noConfusion h) | refine And.intro (fun (h : false = true) => Bool.noConfusion h) (fun (_ : false = false) => ?_)
    refine Or.inl (And.intro (show (!decide (rq s0 l0 t0 = rq s0 l0 t0 ∧ rq z0 k0 u0 = rq z0 k0 u0)) = false by simp) ?_)
    repeat first | refine And.intro rfl ?_ | refine And.intro True.intro ?_ | refine Or.inl (And.intro rfl ?_) | refine Or.inr (And.intro rfl ?_) | refine And.intro (fun (_ : true = true) => ?_) (fun (h : true = false) => Bool.noConfusion h) | refine And.intro (fun (h : false = true) => Bool.noConfusion h) (fun (_ : false = false) => ?_)
    have fs := foot_side (p := (rq s0 l0 t0, rq z0 k0 u0)) hz
    rw [ef] at fs
    have ms := mir_side (p := (rq s0 l0 t0, rq z0 k0 u0)) hz
    rw [em] at ms
    have md := mir_dist (p := (rq s0 l0 t0, rq z0 k0 u0)) hz
    rw [em] at md
    have mu := mir_sum (p := (rq s0 l0 t0, rq z0 k0 u0)) (a := (rq s1 l1 t1, rq z1 k1 u1)) (b := (rq s2 l2 t2, rq z2 k2 u2))
    rw [em, ef] at mu
    simp only at fs ms md mu
    refine And.intro ?pre ?_
    case pre =>
      repeat' refine And.intro ?_ ?_
      all_goals first | exact lenN_of (by decide) | exact lenD_of (by decide) | assumption | exact trivial | exact Nat.zero_le _ | omega
    rw [qfA, qfB, fs, cmpQ_self]
    repeat first | refine And.intro rfl ?_ | refine And.intro True.intro ?_ | refine Or.inl (And.intro rfl ?_) | refine Or.inr (And.intro rfl ?_) | refine And.intro (fun (_ : true = true) => ?_) (fun (h : true = false) => Bool.noConfusion h) | refine And.intro (fun (h : false = true) => Bool.noConfusion h) (fun (_ : false = false) => ?_)
    refine And.intro ?pre ?_
    case pre =>
      repeat' refine And.intro ?_ ?_
      all_goals first | exact lenN_of (by decide) | exact lenD_of (by decide) | assumption | exact trivial | exact Nat.zero_le _ | omega
    rw [qfA, qfB]
    have igA := (inferInstance : Szc (fA + fA) _)
    have igB := (inferInstance : Szc (fB + fB) _)
    generalize egA : fA + fA = gA
    generalize egB : fB + fB = gB
    rw [egA] at igA
    rw [egB] at igB
    have qgA := rq_cq gA
    have qgB := rq_cq gB
    repeat first | refine And.intro rfl ?_ | refine And.intro True.intro ?_ | refine Or.inl (And.intro rfl ?_) | refine Or.inr (And.intro rfl ?_) | refine And.intro (fun (_ : true = true) => ?_) (fun (h : true = false) => Bool.noConfusion h) | refine And.intro (fun (h : false = true) => Bool.noConfusion h) (fun (_ : false = false) => ?_)
    refine And.intro ?pre ?_
    case pre =>
      repeat' refine And.intro ?_ ?_
      all_goals first | exact lenN_of (by decide) | exact lenD_of (by decide) | assumption | exact trivial | exact Nat.zero_le _ | omega
    rw [qmA, qmB]
    have ihA := (inferInstance : Szc (rq s0 l0 t0 + mA) _)
    have ihB := (inferInstance : Szc (rq z0 k0 u0 + mB) _)
    generalize ehA : rq s0 l0 t0 + mA = hA
    generalize ehB : rq z0 k0 u0 + mB = hB
    rw [ehA] at ihA
    rw [ehB] at ihB
    have qhA := rq_cq hA
    have qhB := rq_cq hB
    repeat first | refine And.intro rfl ?_ | refine And.intro True.intro ?_ | refine Or.inl (And.intro rfl ?_) | refine Or.inr (And.intro rfl ?_) | refine And.intro (fun (_ : true = true) => ?_) (fun (h : true = false) => Bool.noConfusion h) | refine And.intro (fun (h : false = true) => Bool.noConfusion h) (fun (_ : false = false) => ?_)
    refine And.intro ?pre ?_
    case pre =>
      repeat' refine And.intro ?_ ?_
      all_goals first | exact lenN_of (by decide) | exact lenD_of (by decide) | assumption | exact trivial | exact Nat.zero_le _ | omega
    rw [qgA, qgB, qhA, qhB]
    repeat first | refine And.intro rfl ?_ | refine And.intro True.intro ?_ | refine Or.inl (And.intro rfl ?_) | refine Or.inr (And.intro rfl ?_) | refine And.intro (fun (_ : true = true) => ?_) (fun (h : true = false) => Bool.noConfusion h) | refine And.intro (fun (h : false = true) => Bool.noConfusion h) (fun (_ : false = false) => ?_)
    refine And.intro (fun hc => ?_) (fun _ => ?_)
    · have hc : (!decide (gA = hA ∧ gB = hB)) = true := hc
      rw [← egA, ← egB, ← ehA, ← ehB, mu.1, mu.2] at hc
      simp at hc
    repeat first | refine And.intro rfl ?_ | refine And.intro True.intro ?_ | refine Or.inl (And.intro rfl ?_) | refine Or.inr (And.intro rfl ?_) | refine And.intro (fun (_ : true = true) => ?_) (fun (h : true = false) => Bool.noConfusion h) | refine And.intro (fun (h : false = true) => Bool.noConfusion h) (fun (_ : false = false) => ?_)
    refine And.intro ?pre ?_
    case pre =>
      repeat' refine And.intro ?_ ?_
      all_goals first | exact lenN_of (by decide) | exact lenD_of (by decide) | assumption | exact trivial | exact Nat.zero_le _ | omega

    have ivA := (inferInstance : Szc (rq s0 l0 t0 - rq s1 l1 t1) _)
    have ivB := (inferInstance : Szc (rq z0 k0 u0 - rq z1 k1 u1) _)
    generalize evA : rq s0 l0 t0 - rq s1 l1 t1 = vA
    generalize evB : rq z0 k0 u0 - rq z1 k1 u1 = vB
    rw [evA] at ivA
    rw [evB] at ivB
    have qvA := rq_cq vA
    have qvB := rq_cq vB
    repeat first | refine And.intro rfl ?_ | refine And.intro True.intro ?_ | refine Or.inl (And.intro rfl ?_) | refine Or.inr (And.intro rfl ?_) | refine And.intro (fun (_ : true = true) => ?_) (fun (h : true = false) => Bool.noConfusion h) | refine And.intro (fun (h : false = true) => Bool.noConfusion h) (fun (_ : false = false) => ?_)
    refine And.intro ?pre ?_
    case pre =>
      repeat' refine And.intro ?_ ?_
      all_goals first | exact lenN_of (by decide) | exact lenD_of (by decide) | assumption | exact trivial | exact Nat.zero_le _ | omega
    rw [qmA, qmB]
    have iwA := (inferInstance : Szc (mA - rq s1 l1 t1) _)
    have iwB := (inferInstance : Szc (mB - rq z1 k1 u1) _)
    generalize ewA : mA - rq s1 l1 t1 = wA
    generalize ewB : mB - rq z1 k1 u1 = wB
    rw [ewA] at iwA
    rw [ewB] at iwB
    have qwA := rq_cq wA
    have qwB := rq_cq wB
    repeat first | refine And.intro rfl ?_ | refine And.intro True.intro ?_ | refine Or.inl (And.intro rfl ?_) | refine Or.inr (And.intro rfl ?_) | refine And.intro (fun (_ : true = true) => ?_) (fun (h : true = false) => Bool.noConfusion h) | refine And.intro (fun (h : false = true) => Bool.noConfusion h) (fun (_ : false = false) => ?_)
    refine And.intro ?pre ?_
    case pre =>
      repeat' refine And.intro ?_ ?_
      all_goals first | exact lenN_of (by decide) | exact lenD_of (by decide) | assumption | exact trivial | exact Nat.zero_le _ | omega
    rw [qvA, qvB]
    have idv := (inferInstance : Szc (vA * vA + vB * vB) _)
    generalize edv : vA * vA + vB * vB = dv
    rw [edv] at idv
    have qdv := rq_cq dv
    repeat first | refine And.intro rfl ?_ | refine And.intro True.intro ?_ | refine Or.inl (And.intro rfl ?_) | refine Or.inr (And.intro rfl ?_) | refine And.intro (fun (_ : true = true) => ?_) (fun (h : true = false) => Bool.noConfusion h) | refine And.intro (fun (h : false = true) => Bool.noConfusion h) (fun (_ : false = false) => ?_)
    refine And.intro ?pre ?_
    case pre =>
      repeat' refine And.intro ?_ ?_
      all_goals first | exact lenN_of (by decide) | exact lenD_of (by decide) | assumption | exact trivial | exact Nat.zero_le _ | omega
    rw [qwA, qwB]
    have idw := (inferInstance : Szc (wA * wA + wB * wB) _)
    generalize edw : wA * wA + wB * wB = dw
    rw [edw] at idw
    have qdw := rq_cq dw
    repeat first | refine And.intro rfl ?_ | refine And.intro True.intro ?_ | refine Or.inl (And.intro rfl ?_) | refine Or.inr (And.intro rfl ?_) | refine And.intro (fun (_ : true = true) => ?_) (fun (h : true = false) => Bool.noConfusion h) | refine And.intro (fun (h : false = true) => Bool.noConfusion h) (fun (_ : false = false) => ?_)
    refine And.intro ?pre ?_
    case pre =>
      repeat' refine And.intro ?_ ?_
      all_goals first | exact lenN_of (by decide) | exact lenD_of (by decide) | assumption | exact trivial | exact Nat.zero_le _ | omega
    rw [qdv, qdw]
    repeat first | refine And.intro rfl ?_ | refine And.intro True.intro ?_ | refine Or.inl (And.intro rfl ?_) | refine Or.inr (And.intro rfl ?_) | refine And.intro (fun (_ : true = true) => ?_) (fun (h : true = false) => Bool.noConfusion h) | refine And.intro (fun (h : false = true) => Bool.noConfusion h) (fun (_ : false = false) => ?_)
    refine Or.inl (And.intro (cmpE (show dv = dw by rw [← edv, ← edw, ← evA, ← evB, ← ewA, ← ewB]; exact md)) ?_)
    repeat first | refine And.intro rfl ?_ | refine And.intro True.intro ?_ | refine Or.inl (And.intro rfl ?_) | refine Or.inr (And.intro rfl ?_) | refine And.intro (fun (_ : true = true) => ?_) (fun (h : true = false) => Bool.noConfusion h) | refine And.intro (fun (h : false = true) => Bool.noConfusion h) (fun (_ : false = false) => ?_)
    refine And.intro ?pre ?_
    case pre =>
      repeat' refine And.intro ?_ ?_
      all_goals first | exact lenN_of (by decide) | exact lenD_of (by decide) | assumption | exact trivial | exact Nat.zero_le _ | omega
    generalize ec : cmpQ ((rq s2 l2 t2 - rq s1 l1 t1) * (rq z0 k0 u0 - rq z1 k1 u1) - (rq z2 k2 u2 - rq z1 k1 u1) * (rq s0 l0 t0 - rq s1 l1 t1)) 0 = c
    have rc := cmpQ_rng ((rq s2 l2 t2 - rq s1 l1 t1) * (rq z0 k0 u0 - rq z1 k1 u1) - (rq z2 k2 u2 - rq z1 k1 u1) * (rq s0 l0 t0 - rq s1 l1 t1)) 0
    rw [ec] at rc
    repeat first | refine And.intro rfl ?_ | refine And.intro True.intro ?_ | refine Or.inl (And.intro rfl ?_) | refine Or.inr (And.intro rfl ?_) | refine And.intro (fun (_ : true = true) => ?_) (fun (h : true = false) => Bool.noConfusion h) | refine And.intro (fun (h : false = true) => Bool.noConfusion h) (fun (_ : false = false) => ?_)
    refine And.intro ?pre ?_
    case pre =>
      repeat' refine And.intro ?_ ?_
      all_goals first | exact lenN_of (by decide) | exact lenD_of (by decide) | assumption | exact trivial | exact Nat.zero_le _ | omega
    rw [qmA, qmB, ms, cmpQ_opp, ec]
    repeat first | refine And.intro rfl ?_ | refine And.intro True.intro ?_ | refine Or.inl (And.intro rfl ?_) | refine Or.inr (And.intro rfl ?_) | refine And.intro (fun (_ : true = true) => ?_) (fun (h : true = false) => Bool.noConfusion h) | refine And.intro (fun (h : false = true) => Bool.noConfusion h) (fun (_ : false = false) => ?_)
    refine Or.inl (And.intro (show (c == IntKind.i64.wrap (0 - -c)) = true by rw [wI (by omega) (by omega), Int.zero_sub, Int.neg_neg]; simp) ?_)
    repeat first | refine And.intro rfl ?_ | refine And.intro True.intro ?_ | refine Or.inl (And.intro rfl ?_) | refine Or.inr (And.intro rfl ?_) | refine And.intro (fun (_ : true = true) => ?_) (fun (h : true = false) => Bool.noConfusion h) | refine And.intro (fun (h : false = true) => Bool.noConfusion h) (fun (_ : false = false) => ?_)
    rfl
  · cases h

end Go.Gm
