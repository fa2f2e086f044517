/-
  The statements about points: PointSides. Plain theorems; no condition.
-/
import Derived.Test.YtihmifpdnipdmaaLawP
import Derived.Test.YtihmifpdnipdmaaPtE
set_option linter.all false
namespace Go.Gm
open Go.Proofs


attribute [local irreducible] mkRat rq meetD meetQ footD footQ mirQ rnd grdB cmpQ samePR lightPR

def sPointSides : List RV → Option (Prop × Res)
  | [.agg [.b (.val (.bool s0)), .b (.nat l0), .b (.nat t0), .b (.val (.bool z0)), .b (.nat k0), .b (.nat u0)], .agg [.b (.val (.bool s1)), .b (.nat l1), .b (.nat t1), .b (.val (.bool z1)), .b (.nat k1), .b (.nat u1)], .agg [.b (.val (.bool s2)), .b (.nat l2), .b (.nat t2), .b (.val (.bool z2)), .b (.nat k2), .b (.nat u2)], .agg [.b (.val (.bool s3)), .b (.nat l3), .b (.nat t3)]] => some (True, .r (.val (.bool true)))
  | _ => none

set_option maxRecDepth 20000 in
set_option maxHeartbeats 8000000 in
theorem ok_PointSides : Ok1 21 sPointSides := by
  refine ok_of TW1_ok Try.func21 rfl (by kernel_rfl) ?_
  intro xs pre res h hp hlim
  unfold sPointSides at h
  split at h
  · rename_i s0 l0 t0 z0 k0 u0 s1 l1 t1 z1 k1 u1 s2 l2 t2 z2 k2 u2 s3 l3 t3
    cases h
    refine And.intro (Nat.le_of_ble_eq_true rfl) ?_
    repeat first | refine And.intro rfl ?_ | refine Or.inl (And.intro rfl ?_) | refine Or.inr (And.intro rfl ?_) | refine And.intro (fun (_ : true = true) => ?_) (fun (h : true = false) => Bool.noConfusion h) | refine And.intro (fun (h : false = true) => Bool.noConfusion h) (fun (_ : false = false) => ?_)
    repeat first | refine And.intro rfl ?_ | refine And.intro True.intro ?_ | refine Or.inl (And.intro rfl ?_) | refine Or.inr (And.intro rfl ?_) | refine And.intro (fun (_ : true = true) => ?_) (fun (h : true = false) => Bool.noConfusion h) | refine And.intro (fun (h : false = true) => Bool.noConfusion h) (fun (_ : false = false) => ?_)
    by_cases g0 : (lightPR 3 ⟨s0, l0, t0, z0, k0, u0⟩) = true
    case neg =>
      refine Or.inr (And.intro (show (!(lightPR 3 ⟨s0, l0, t0, z0, k0, u0⟩)) = true by simp [g0]) ?_)
      repeat first | refine And.intro rfl ?_ | refine And.intro True.intro ?_ | refine Or.inl (And.intro rfl ?_) | refine Or.inr (And.intro rfl ?_) | refine And.intro (fun (_ : true = true) => ?_) (fun (h : true = false) => Bool.noConfusion h) | refine And.intro (fun (h : false = true) => Bool.noConfusion h) (fun (_ : false = false) => ?_)
      rfl
    refine Or.inl (And.intro (show (!(lightPR 3 ⟨s0, l0, t0, z0, k0, u0⟩)) = false by simp [g0]) ?_)
    repeat first | refine And.intro rfl ?_ | refine And.intro True.intro ?_ | refine Or.inl (And.intro rfl ?_) | refine Or.inr (And.intro rfl ?_) | refine And.intro (fun (_ : true = true) => ?_) (fun (h : true = false) => Bool.noConfusion h) | refine And.intro (fun (h : false = true) => Bool.noConfusion h) (fun (_ : false = false) => ?_)
    by_cases g1 : (lightPR 3 ⟨s1, l1, t1, z1, k1, u1⟩) = true
    case neg =>
      refine Or.inr (And.intro (show (!(lightPR 3 ⟨s1, l1, t1, z1, k1, u1⟩)) = true by simp [g1]) ?_)
      repeat first | refine And.intro rfl ?_ | refine And.intro True.intro ?_ | refine Or.inl (And.intro rfl ?_) | refine Or.inr (And.intro rfl ?_) | refine And.intro (fun (_ : true = true) => ?_) (fun (h : true = false) => Bool.noConfusion h) | refine And.intro (fun (h : false = true) => Bool.noConfusion h) (fun (_ : false = false) => ?_)
      rfl
    refine Or.inl (And.intro (show (!(lightPR 3 ⟨s1, l1, t1, z1, k1, u1⟩)) = false by simp [g1]) ?_)
    repeat first | refine And.intro rfl ?_ | refine And.intro True.intro ?_ | refine Or.inl (And.intro rfl ?_) | refine Or.inr (And.intro rfl ?_) | refine And.intro (fun (_ : true = true) => ?_) (fun (h : true = false) => Bool.noConfusion h) | refine And.intro (fun (h : false = true) => Bool.noConfusion h) (fun (_ : false = false) => ?_)
    by_cases g2 : (lightPR 3 ⟨s2, l2, t2, z2, k2, u2⟩) = true
    case neg =>
      refine Or.inr (And.intro (show (!(lightPR 3 ⟨s2, l2, t2, z2, k2, u2⟩)) = true by simp [g2]) ?_)
      repeat first | refine And.intro rfl ?_ | refine And.intro True.intro ?_ | refine Or.inl (And.intro rfl ?_) | refine Or.inr (And.intro rfl ?_) | refine And.intro (fun (_ : true = true) => ?_) (fun (h : true = false) => Bool.noConfusion h) | refine And.intro (fun (h : false = true) => Bool.noConfusion h) (fun (_ : false = false) => ?_)
      rfl
    refine Or.inl (And.intro (show (!(lightPR 3 ⟨s2, l2, t2, z2, k2, u2⟩)) = false by simp [g2]) ?_)
    repeat first | refine And.intro rfl ?_ | refine And.intro True.intro ?_ | refine Or.inl (And.intro rfl ?_) | refine Or.inr (And.intro rfl ?_) | refine And.intro (fun (_ : true = true) => ?_) (fun (h : true = false) => Bool.noConfusion h) | refine And.intro (fun (h : false = true) => Bool.noConfusion h) (fun (_ : false = false) => ?_)
    refine And.intro (fun hc => ?_) (fun hc => ?_)
    · repeat first | refine And.intro rfl ?_ | refine And.intro True.intro ?_ | refine Or.inl (And.intro rfl ?_) | refine Or.inr (And.intro rfl ?_) | refine And.intro (fun (_ : true = true) => ?_) (fun (h : true = false) => Bool.noConfusion h) | refine And.intro (fun (h : false = true) => Bool.noConfusion h) (fun (_ : false = false) => ?_)
      rfl
    have g3 : (decide ((l3.length : Int) ≤ 3 ∧ (t3.length : Int) ≤ 3)) = true := by
      have hc : (!(decide ((l3.length : Int) ≤ 3 ∧ (t3.length : Int) ≤ 3))) = false := hc
      simpa using hc
    have w0 := lightPR_le (n := 3) g0
    obtain ⟨hl0, ht0, hk0, hu0⟩ := w0
    have hl0 : l0.length ≤ 3 := hl0
    have ht0 : t0.length ≤ 3 := ht0
    have hk0 : k0.length ≤ 3 := hk0
    have hu0 : u0.length ≤ 3 := hu0
    have iX0 : Szc (rq s0 l0 t0) (3 + 1) := ⟨Sz.rq hlim.1.2.1 hlim.1.2.2.1 hl0 ht0⟩
    have iY0 : Szc (rq z0 k0 u0) (3 + 1) := ⟨Sz.rq hlim.1.2.2.2.2.1 hlim.1.2.2.2.2.2.1 hk0 hu0⟩
    have w1 := lightPR_le (n := 3) g1
    obtain ⟨hl1, ht1, hk1, hu1⟩ := w1
    have hl1 : l1.length ≤ 3 := hl1
    have ht1 : t1.length ≤ 3 := ht1
    have hk1 : k1.length ≤ 3 := hk1
    have hu1 : u1.length ≤ 3 := hu1
    have iX1 : Szc (rq s1 l1 t1) (3 + 1) := ⟨Sz.rq hlim.2.1.2.1 hlim.2.1.2.2.1 hl1 ht1⟩
    have iY1 : Szc (rq z1 k1 u1) (3 + 1) := ⟨Sz.rq hlim.2.1.2.2.2.2.1 hlim.2.1.2.2.2.2.2.1 hk1 hu1⟩
    have w2 := lightPR_le (n := 3) g2
    obtain ⟨hl2, ht2, hk2, hu2⟩ := w2
    have hl2 : l2.length ≤ 3 := hl2
    have ht2 : t2.length ≤ 3 := ht2
    have hk2 : k2.length ≤ 3 := hk2
    have hu2 : u2.length ≤ 3 := hu2
    have iX2 : Szc (rq s2 l2 t2) (3 + 1) := ⟨Sz.rq hlim.2.2.1.2.1 hlim.2.2.1.2.2.1 hl2 ht2⟩
    have iY2 : Szc (rq z2 k2 u2) (3 + 1) := ⟨Sz.rq hlim.2.2.1.2.2.2.2.1 hlim.2.2.1.2.2.2.2.2.1 hk2 hu2⟩
    have w3 := of_decide_eq_true g3
    have hl3 : l3.length ≤ 3 := by omega
    have ht3 : t3.length ≤ 3 := by omega
    have iX3 : Szc (rq s3 l3 t3) (3 + 1) := ⟨Sz.rq hlim.2.2.2.1.2.1 hlim.2.2.2.1.2.2.1 hl3 ht3⟩
    repeat first | refine And.intro rfl ?_ | refine And.intro True.intro ?_ | refine Or.inl (And.intro rfl ?_) | refine Or.inr (And.intro rfl ?_) | refine And.intro (fun (_ : true = true) => ?_) (fun (h : true = false) => Bool.noConfusion h) | refine And.intro (fun (h : false = true) => Bool.noConfusion h) (fun (_ : false = false) => ?_)
    refine And.intro ?pre ?_
    case pre =>
      repeat' refine And.intro ?_ ?_
      all_goals first | exact lenN_of (by decide) | exact lenD_of (by decide) | assumption | exact trivial | exact Nat.zero_le _ | omega
    generalize en : cmpQ ((rq s1 l1 t1 - rq s0 l0 t0) * (rq z2 k2 u2 - rq z0 k0 u0) - (rq z1 k1 u1 - rq z0 k0 u0) * (rq s2 l2 t2 - rq s0 l0 t0)) 0 = n
    have rn := cmpQ_rng ((rq s1 l1 t1 - rq s0 l0 t0) * (rq z2 k2 u2 - rq z0 k0 u0) - (rq z1 k1 u1 - rq z0 k0 u0) * (rq s2 l2 t2 - rq s0 l0 t0)) 0
    rw [en] at rn
    repeat first | refine And.intro rfl ?_ | refine And.intro True.intro ?_ | refine Or.inl (And.intro rfl ?_) | refine Or.inr (And.intro rfl ?_) | refine And.intro (fun (_ : true = true) => ?_) (fun (h : true = false) => Bool.noConfusion h) | refine And.intro (fun (h : false = true) => Bool.noConfusion h) (fun (_ : false = false) => ?_)
    refine Or.inl (And.intro (decide_eq_true (show n ≥ -1 from rn.1)) ?_)
    repeat first | refine And.intro rfl ?_ | refine And.intro True.intro ?_ | refine Or.inl (And.intro rfl ?_) | refine Or.inr (And.intro rfl ?_) | refine And.intro (fun (_ : true = true) => ?_) (fun (h : true = false) => Bool.noConfusion h) | refine And.intro (fun (h : false = true) => Bool.noConfusion h) (fun (_ : false = false) => ?_)
    refine Or.inl (And.intro (decide_eq_true (show n ≤ 1 from rn.2)) ?_)
    repeat first | refine And.intro rfl ?_ | refine And.intro True.intro ?_ | refine Or.inl (And.intro rfl ?_) | refine Or.inr (And.intro rfl ?_) | refine And.intro (fun (_ : true = true) => ?_) (fun (h : true = false) => Bool.noConfusion h) | refine And.intro (fun (h : false = true) => Bool.noConfusion h) (fun (_ : false = false) => ?_)
    refine And.intro ?pre ?_
    case pre =>
      repeat' refine And.intro ?_ ?_
      all_goals first | exact lenN_of (by decide) | exact lenD_of (by decide) | assumption | exact trivial | exact Nat.zero_le _ | omega
    rw [show (rq s2 l2 t2 - rq s1 l1 t1) * (rq z0 k0 u0 - rq z1 k1 u1) - (rq z2 k2 u2 - rq z1 k1 u1) * (rq s0 l0 t0 - rq s1 l1 t1) = (rq s1 l1 t1 - rq s0 l0 t0) * (rq z2 k2 u2 - rq z0 k0 u0) - (rq z1 k1 u1 - rq z0 k0 u0) * (rq s2 l2 t2 - rq s0 l0 t0) by grind, en]
    repeat first | refine And.intro rfl ?_ | refine And.intro True.intro ?_ | refine Or.inl (And.intro rfl ?_) | refine Or.inr (And.intro rfl ?_) | refine And.intro (fun (_ : true = true) => ?_) (fun (h : true = false) => Bool.noConfusion h) | refine And.intro (fun (h : false = true) => Bool.noConfusion h) (fun (_ : false = false) => ?_)
    refine Or.inl (And.intro (show (n == n) = true by simp) ?_)
    repeat first | refine And.intro rfl ?_ | refine And.intro True.intro ?_ | refine Or.inl (And.intro rfl ?_) | refine Or.inr (And.intro rfl ?_) | refine And.intro (fun (_ : true = true) => ?_) (fun (h : true = false) => Bool.noConfusion h) | refine And.intro (fun (h : false = true) => Bool.noConfusion h) (fun (_ : false = false) => ?_)
    refine And.intro ?pre ?_
    case pre =>
      repeat' refine And.intro ?_ ?_
      all_goals first | exact lenN_of (by decide) | exact lenD_of (by decide) | assumption | exact trivial | exact Nat.zero_le _ | omega
    rw [show (rq s0 l0 t0 - rq s2 l2 t2) * (rq z1 k1 u1 - rq z2 k2 u2) - (rq z0 k0 u0 - rq z2 k2 u2) * (rq s1 l1 t1 - rq s2 l2 t2) = (rq s1 l1 t1 - rq s0 l0 t0) * (rq z2 k2 u2 - rq z0 k0 u0) - (rq z1 k1 u1 - rq z0 k0 u0) * (rq s2 l2 t2 - rq s0 l0 t0) by grind, en]
    repeat first | refine And.intro rfl ?_ | refine And.intro True.intro ?_ | refine Or.inl (And.intro rfl ?_) | refine Or.inr (And.intro rfl ?_) | refine And.intro (fun (_ : true = true) => ?_) (fun (h : true = false) => Bool.noConfusion h) | refine And.intro (fun (h : false = true) => Bool.noConfusion h) (fun (_ : false = false) => ?_)
    refine Or.inl (And.intro (show (n == n) = true by simp) ?_)
    repeat first | refine And.intro rfl ?_ | refine And.intro True.intro ?_ | refine Or.inl (And.intro rfl ?_) | refine Or.inr (And.intro rfl ?_) | refine And.intro (fun (_ : true = true) => ?_) (fun (h : true = false) => Bool.noConfusion h) | refine And.intro (fun (h : false = true) => Bool.noConfusion h) (fun (_ : false = false) => ?_)
    refine And.intro ?pre ?_
    case pre =>
      repeat' refine And.intro ?_ ?_
      all_goals first | exact lenN_of (by decide) | exact lenD_of (by decide) | assumption | exact trivial | exact Nat.zero_le _ | omega
    rw [show (rq s0 l0 t0 - rq s1 l1 t1) * (rq z2 k2 u2 - rq z1 k1 u1) - (rq z0 k0 u0 - rq z1 k1 u1) * (rq s2 l2 t2 - rq s1 l1 t1) = -((rq s1 l1 t1 - rq s0 l0 t0) * (rq z2 k2 u2 - rq z0 k0 u0) - (rq z1 k1 u1 - rq z0 k0 u0) * (rq s2 l2 t2 - rq s0 l0 t0)) by grind, cmpQ_opp, en]
    repeat first | refine And.intro rfl ?_ | refine And.intro True.intro ?_ | refine Or.inl (And.intro rfl ?_) | refine Or.inr (And.intro rfl ?_) | refine And.intro (fun (_ : true = true) => ?_) (fun (h : true = false) => Bool.noConfusion h) | refine And.intro (fun (h : false = true) => Bool.noConfusion h) (fun (_ : false = false) => ?_)
    refine Or.inl (And.intro (show (-n == IntKind.i64.wrap (0 - n)) = true by rw [wI (by omega) (by omega), Int.zero_sub]; simp) ?_)
    repeat first | refine And.intro rfl ?_ | refine And.intro True.intro ?_ | refine Or.inl (And.intro rfl ?_) | refine Or.inr (And.intro rfl ?_) | refine And.intro (fun (_ : true = true) => ?_) (fun (h : true = false) => Bool.noConfusion h) | refine And.intro (fun (h : false = true) => Bool.noConfusion h) (fun (_ : false = false) => ?_)
    refine And.intro ?pre ?_
    case pre =>
      repeat' refine And.intro ?_ ?_
      all_goals first | exact lenN_of (by decide) | exact lenD_of (by decide) | assumption | exact trivial | exact Nat.zero_le _ | omega

    have ioA := (inferInstance : Szc (rq s0 l0 t0 + (rq s1 l1 t1 - rq s0 l0 t0) * rq s3 l3 t3) _)
    have ioB := (inferInstance : Szc (rq z0 k0 u0 + (rq z1 k1 u1 - rq z0 k0 u0) * rq s3 l3 t3) _)
    generalize eoA : rq s0 l0 t0 + (rq s1 l1 t1 - rq s0 l0 t0) * rq s3 l3 t3 = oA
    generalize eoB : rq z0 k0 u0 + (rq z1 k1 u1 - rq z0 k0 u0) * rq s3 l3 t3 = oB
    rw [eoA] at ioA
    rw [eoB] at ioB
    have qoA := rq_cq oA
    have qoB := rq_cq oB
    repeat first | refine And.intro rfl ?_ | refine And.intro True.intro ?_ | refine Or.inl (And.intro rfl ?_) | refine Or.inr (And.intro rfl ?_) | refine And.intro (fun (_ : true = true) => ?_) (fun (h : true = false) => Bool.noConfusion h) | refine And.intro (fun (h : false = true) => Bool.noConfusion h) (fun (_ : false = false) => ?_)
    refine And.intro ?pre ?_
    case pre =>
      repeat' refine And.intro ?_ ?_
      all_goals first | exact lenN_of (by decide) | exact lenD_of (by decide) | assumption | exact trivial | exact Nat.zero_le _ | omega
    rw [qoA, qoB, show (rq s1 l1 t1 - rq s0 l0 t0) * (oB - rq z0 k0 u0) - (rq z1 k1 u1 - rq z0 k0 u0) * (oA - rq s0 l0 t0) = 0 by rw [← eoA, ← eoB]; grind, cmpQ_self]
    repeat first | refine And.intro rfl ?_ | refine And.intro True.intro ?_ | refine Or.inl (And.intro rfl ?_) | refine Or.inr (And.intro rfl ?_) | refine And.intro (fun (_ : true = true) => ?_) (fun (h : true = false) => Bool.noConfusion h) | refine And.intro (fun (h : false = true) => Bool.noConfusion h) (fun (_ : false = false) => ?_)
    refine And.intro (And.intro (show InR _ from ⟨by decide, by decide⟩) (And.intro (show InR _ from ⟨by decide, by decide⟩) (by decide))) ?_
    generalize eg : mkRat (sg _ _) _ = g
    have vg : g = 0 := by rw [← eg]; decide +kernel
    have ig : Szc g 1 := by rw [vg]; exact szS (by decide +kernel)
    have qg := rq_cq g
    repeat first | refine And.intro rfl ?_ | refine And.intro True.intro ?_ | refine Or.inl (And.intro rfl ?_) | refine Or.inr (And.intro rfl ?_) | refine And.intro (fun (_ : true = true) => ?_) (fun (h : true = false) => Bool.noConfusion h) | refine And.intro (fun (h : false = true) => Bool.noConfusion h) (fun (_ : false = false) => ?_)
    refine And.intro ?pre ?_
    case pre =>
      repeat' refine And.intro ?_ ?_
      all_goals first | exact lenN_of (by decide) | exact lenD_of (by decide) | assumption | exact trivial | exact Nat.zero_le _ | omega
    rw [qg]
    have igoA := (inferInstance : Szc (rq s0 l0 t0 + (rq s1 l1 t1 - rq s0 l0 t0) * g) _)
    have igoB := (inferInstance : Szc (rq z0 k0 u0 + (rq z1 k1 u1 - rq z0 k0 u0) * g) _)
    generalize egoA : rq s0 l0 t0 + (rq s1 l1 t1 - rq s0 l0 t0) * g = goA
    generalize egoB : rq z0 k0 u0 + (rq z1 k1 u1 - rq z0 k0 u0) * g = goB
    rw [egoA] at igoA
    rw [egoB] at igoB
    have qgoA := rq_cq goA
    have qgoB := rq_cq goB
    repeat first | refine And.intro rfl ?_ | refine And.intro True.intro ?_ | refine Or.inl (And.intro rfl ?_) | refine Or.inr (And.intro rfl ?_) | refine And.intro (fun (_ : true = true) => ?_) (fun (h : true = false) => Bool.noConfusion h) | refine And.intro (fun (h : false = true) => Bool.noConfusion h) (fun (_ : false = false) => ?_)
    refine And.intro ?pre ?_
    case pre =>
      repeat' refine And.intro ?_ ?_
      all_goals first | exact lenN_of (by decide) | exact lenD_of (by decide) | assumption | exact trivial | exact Nat.zero_le _ | omega
    rw [qgoA, qgoB]
    repeat first | refine And.intro rfl ?_ | refine And.intro True.intro ?_ | refine Or.inl (And.intro rfl ?_) | refine Or.inr (And.intro rfl ?_) | refine And.intro (fun (_ : true = true) => ?_) (fun (h : true = false) => Bool.noConfusion h) | refine And.intro (fun (h : false = true) => Bool.noConfusion h) (fun (_ : false = false) => ?_)
    refine Or.inl (And.intro (decide_eq_true (show goA = rq s0 l0 t0 ∧ goB = rq z0 k0 u0 from ⟨by rw [← egoA, vg]; grind, by rw [← egoB, vg]; grind⟩)) ?_)
    repeat first | refine And.intro rfl ?_ | refine And.intro True.intro ?_ | refine Or.inl (And.intro rfl ?_) | refine Or.inr (And.intro rfl ?_) | refine And.intro (fun (_ : true = true) => ?_) (fun (h : true = false) => Bool.noConfusion h) | refine And.intro (fun (h : false = true) => Bool.noConfusion h) (fun (_ : false = false) => ?_)
    refine And.intro (And.intro (show InR _ from ⟨by decide, by decide⟩) (And.intro (show InR _ from ⟨by decide, by decide⟩) (by decide))) ?_
    generalize eh : mkRat (sg _ _) _ = h
    have vh : h = 1 := by rw [← eh]; decide +kernel
    have ih : Szc h 1 := by rw [vh]; exact szS (by decide +kernel)
    have qh := rq_cq h
    repeat first | refine And.intro rfl ?_ | refine And.intro True.intro ?_ | refine Or.inl (And.intro rfl ?_) | refine Or.inr (And.intro rfl ?_) | refine And.intro (fun (_ : true = true) => ?_) (fun (h : true = false) => Bool.noConfusion h) | refine And.intro (fun (h : false = true) => Bool.noConfusion h) (fun (_ : false = false) => ?_)
    refine And.intro ?pre ?_
    case pre =>
      repeat' refine And.intro ?_ ?_
      all_goals first | exact lenN_of (by decide) | exact lenD_of (by decide) | assumption | exact trivial | exact Nat.zero_le _ | omega
    rw [qh]
    have ihoA := (inferInstance : Szc (rq s0 l0 t0 + (rq s1 l1 t1 - rq s0 l0 t0) * h) _)
    have ihoB := (inferInstance : Szc (rq z0 k0 u0 + (rq z1 k1 u1 - rq z0 k0 u0) * h) _)
    generalize ehoA : rq s0 l0 t0 + (rq s1 l1 t1 - rq s0 l0 t0) * h = hoA
    generalize ehoB : rq z0 k0 u0 + (rq z1 k1 u1 - rq z0 k0 u0) * h = hoB
    rw [ehoA] at ihoA
    rw [ehoB] at ihoB
    have qhoA := rq_cq hoA
    have qhoB := rq_cq hoB
    repeat first | refine And.intro rfl ?_ | refine And.intro True.intro ?_ | refine Or.inl (And.intro rfl ?_) | refine Or.inr (And.intro rfl ?_) | refine And.intro (fun (_ : true = true) => ?_) (fun (h : true = false) => Bool.noConfusion h) | refine And.intro (fun (h : false = true) => Bool.noConfusion h) (fun (_ : false = false) => ?_)
    refine And.intro ?pre ?_
    case pre =>
      repeat' refine And.intro ?_ ?_
      all_goals first | exact lenN_of (by decide) | exact lenD_of (by decide) | assumption | exact trivial | exact Nat.zero_le _ | omega
    rw [qhoA, qhoB]
    repeat first | refine And.intro rfl ?_ | refine And.intro True.intro ?_ | refine Or.inl (And.intro rfl ?_) | refine Or.inr (And.intro rfl ?_) | refine And.intro (fun (_ : true = true) => ?_) (fun (h : true = false) => Bool.noConfusion h) | refine And.intro (fun (h : false = true) => Bool.noConfusion h) (fun (_ : false = false) => ?_)
    refine Or.inl (And.intro (decide_eq_true (show hoA = rq s1 l1 t1 ∧ hoB = rq z1 k1 u1 from ⟨by rw [← ehoA, vh]; grind, by rw [← ehoB, vh]; grind⟩)) ?_)
    repeat first | refine And.intro rfl ?_ | refine And.intro True.intro ?_ | refine Or.inl (And.intro rfl ?_) | refine Or.inr (And.intro rfl ?_) | refine And.intro (fun (_ : true = true) => ?_) (fun (h : true = false) => Bool.noConfusion h) | refine And.intro (fun (h : false = true) => Bool.noConfusion h) (fun (_ : false = false) => ?_)
    rfl
  · cases h

end Go.Gm
