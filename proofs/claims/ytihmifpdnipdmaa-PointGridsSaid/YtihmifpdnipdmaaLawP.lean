/-
  The statements about points: PointAlgebra. Plain theorems; no condition.
-/
import Derived.Test.YtihmifpdnipdmaaAw2
set_option linter.all false
namespace Go.Gm
open Go.Proofs

def TW1 : Table := [(65, sTrue0), (89, sRatNeg)] ++ TW0
theorem TW1_ok : TabOk TW1 := TabOk.append (TabOk.cons ok_awake (TabOk.cons ok_ratNeg TabOk.nil)) TW0_ok

theorem cmpN {a b : Rat} (h : a = b) : (!(cmpQ a b == 0)) = false := by rw [cmpQ_zero, decide_eq_true h]; rfl
theorem cmpE {a b : Rat} (h : a = b) : (cmpQ a b == 0) = true := by rw [cmpQ_zero, decide_eq_true h]

attribute [local irreducible] mkRat rq meetD meetQ footD footQ mirQ rnd grdB cmpQ samePR lightPR

def sPointAlgebra : List RV → Option (Prop × Res)
  | [.agg [.b (.val (.bool s0)), .b (.nat l0), .b (.nat t0), .b (.val (.bool z0)), .b (.nat k0), .b (.nat u0)], .agg [.b (.val (.bool s1)), .b (.nat l1), .b (.nat t1), .b (.val (.bool z1)), .b (.nat k1), .b (.nat u1)], .agg [.b (.val (.bool s2)), .b (.nat l2), .b (.nat t2), .b (.val (.bool z2)), .b (.nat k2), .b (.nat u2)]] => some (True, .r (.val (.bool true)))
  | _ => none

set_option maxRecDepth 20000 in
set_option maxHeartbeats 4000000 in
theorem ok_PointAlgebra : Ok1 20 sPointAlgebra := by
  refine ok_of TW1_ok Try.func20 rfl (by kernel_rfl) ?_
  intro xs pre res h hp hlim
  unfold sPointAlgebra at h
  split at h
  · rename_i s0 l0 t0 z0 k0 u0 s1 l1 t1 z1 k1 u1 s2 l2 t2 z2 k2 u2
    cases h
    refine And.intro (Nat.le_of_ble_eq_true rfl) ?_
    repeat first | refine And.intro rfl ?_ | refine Or.inl (And.intro rfl ?_) | refine Or.inr (And.intro rfl ?_) | refine And.intro (fun (_ : true = true) => ?_) (fun (h : true = false) => Bool.noConfusion h) | refine And.intro (fun (h : false = true) => Bool.noConfusion h) (fun (_ : false = false) => ?_)
    repeat first | refine And.intro rfl ?_ | refine And.intro True.intro ?_ | refine Or.inl (And.intro rfl ?_) | refine Or.inr (And.intro rfl ?_) | refine And.intro (fun (_ : true = true) => ?_) (fun (h : true = false) => Bool.noConfusion h) | refine And.intro (fun (h : false = true) => Bool.noConfusion h) (fun (_ : false = false) => ?_)
    by_cases g0 : (lightPR 3 ⟨s0, l0, t0, z0, k0, u0⟩) = true
    case neg =>
      refine Or.inr (And.intro (show (!(lightPR 3 ⟨s0, l0, t0, z0, k0, u0⟩)) = true by simp [g0]) ?_)
      repeat first | refine And.intro rfl ?_ | refine And.intro True.intro ?_ | refine Or.inl (And.intro rfl ?_) | refine Or.inr (And.intro rfl ?_) | refine And.intro (fun (_ : true = true) => ?_) (fun (h : true = false) => Bool.noConfusion h) | refine And.intro (fun (h : false = true) => Bool.noConfusion h) (fun (_ : false = false) => ?_)
      rfl
    refine Or.inl (And.intro (show (!(lightPR 3 ⟨s0, l0, t0, z0, k0, u0⟩)) = false by simp [g0]) ?_)
    repeat first | refine And.intro rfl ?_ | refine And.intro True.intro ?_ | refine Or.inl (And.intro rfl ?_) | refine Or.inr (And.intro rfl ?_) | refine And.intro (fun (_ : true = true) => ?_) (fun (h : true = false) => Bool.noConfusion h) | refine And.intro (fun (h : false = true) => Bool.noConfusion h) (fun (_ : false = false) => ?_)
    by_cases g1 : (lightPR 3 ⟨s1, l1, t1, z1, k1, u1⟩) = true
    case neg =>
      refine Or.inr (And.intro (show (!(lightPR 3 ⟨s1, l1, t1, z1, k1, u1⟩)) = true by simp [g1]) ?_)
      repeat first | refine And.intro rfl ?_ | refine And.intro True.intro ?_ | refine Or.inl (And.intro rfl ?_) | refine Or.inr (And.intro rfl ?_) | refine And.intro (fun (_ : true = true) => ?_) (fun (h : true = false) => Bool.noConfusion h) | refine And.intro (fun (h : false = true) => Bool.noConfusion h) (fun (_ : false = false) => ?_)
      rfl
    refine Or.inl (And.intro (show (!(lightPR 3 ⟨s1, l1, t1, z1, k1, u1⟩)) = false by simp [g1]) ?_)
    repeat first | refine And.intro rfl ?_ | refine And.intro True.intro ?_ | refine Or.inl (And.intro rfl ?_) | refine Or.inr (And.intro rfl ?_) | refine And.intro (fun (_ : true = true) => ?_) (fun (h : true = false) => Bool.noConfusion h) | refine And.intro (fun (h : false = true) => Bool.noConfusion h) (fun (_ : false = false) => ?_)
    refine And.intro (fun hc => ?_) (fun hc => ?_)
    · repeat first | refine And.intro rfl ?_ | refine And.intro True.intro ?_ | refine Or.inl (And.intro rfl ?_) | refine Or.inr (And.intro rfl ?_) | refine And.intro (fun (_ : true = true) => ?_) (fun (h : true = false) => Bool.noConfusion h) | refine And.intro (fun (h : false = true) => Bool.noConfusion h) (fun (_ : false = false) => ?_)
      rfl
    have g2 : (lightPR 3 ⟨s2, l2, t2, z2, k2, u2⟩) = true := by
      have hc : (!(lightPR 3 ⟨s2, l2, t2, z2, k2, u2⟩)) = false := hc
      simpa using hc
    have w0 := lightPR_le (n := 3) g0
    obtain ⟨hl0, ht0, hk0, hu0⟩ := w0
    have hl0 : l0.length ≤ 3 := hl0
    have ht0 : t0.length ≤ 3 := ht0
    have hk0 : k0.length ≤ 3 := hk0
    have hu0 : u0.length ≤ 3 := hu0
    have iX0 : Szc (rq s0 l0 t0) 4 := ⟨Sz.rq hlim.1.2.1 hlim.1.2.2.1 hl0 ht0⟩
    have iY0 : Szc (rq z0 k0 u0) 4 := ⟨Sz.rq hlim.1.2.2.2.2.1 hlim.1.2.2.2.2.2.1 hk0 hu0⟩
    have w1 := lightPR_le (n := 3) g1
    obtain ⟨hl1, ht1, hk1, hu1⟩ := w1
    have hl1 : l1.length ≤ 3 := hl1
    have ht1 : t1.length ≤ 3 := ht1
    have hk1 : k1.length ≤ 3 := hk1
    have hu1 : u1.length ≤ 3 := hu1
    have iX1 : Szc (rq s1 l1 t1) 4 := ⟨Sz.rq hlim.2.1.2.1 hlim.2.1.2.2.1 hl1 ht1⟩
    have iY1 : Szc (rq z1 k1 u1) 4 := ⟨Sz.rq hlim.2.1.2.2.2.2.1 hlim.2.1.2.2.2.2.2.1 hk1 hu1⟩
    have w2 := lightPR_le (n := 3) g2
    obtain ⟨hl2, ht2, hk2, hu2⟩ := w2
    have hl2 : l2.length ≤ 3 := hl2
    have ht2 : t2.length ≤ 3 := ht2
    have hk2 : k2.length ≤ 3 := hk2
    have hu2 : u2.length ≤ 3 := hu2
    have iX2 : Szc (rq s2 l2 t2) 4 := ⟨Sz.rq hlim.2.2.1.2.1 hlim.2.2.1.2.2.1 hl2 ht2⟩
    have iY2 : Szc (rq z2 k2 u2) 4 := ⟨Sz.rq hlim.2.2.1.2.2.2.2.1 hlim.2.2.1.2.2.2.2.2.1 hk2 hu2⟩
    repeat first | refine And.intro rfl ?_ | refine And.intro True.intro ?_ | refine Or.inl (And.intro rfl ?_) | refine Or.inr (And.intro rfl ?_) | refine And.intro (fun (_ : true = true) => ?_) (fun (h : true = false) => Bool.noConfusion h) | refine And.intro (fun (h : false = true) => Bool.noConfusion h) (fun (_ : false = false) => ?_)
    refine And.intro ?pre ?_
    case pre =>
      repeat' refine And.intro ?_ ?_
      all_goals first | exact lenN_of (by decide) | exact lenD_of (by decide) | assumption | exact trivial | exact Nat.zero_le _ | omega
    have ix := (inferInstance : Szc (rq s0 l0 t0 * rq z1 k1 u1 - rq z0 k0 u0 * rq s1 l1 t1) _)
    generalize ex : rq s0 l0 t0 * rq z1 k1 u1 - rq z0 k0 u0 * rq s1 l1 t1 = x
    rw [ex] at ix
    have qx := rq_cq x
    repeat first | refine And.intro rfl ?_ | refine And.intro True.intro ?_ | refine Or.inl (And.intro rfl ?_) | refine Or.inr (And.intro rfl ?_) | refine And.intro (fun (_ : true = true) => ?_) (fun (h : true = false) => Bool.noConfusion h) | refine And.intro (fun (h : false = true) => Bool.noConfusion h) (fun (_ : false = false) => ?_)
    refine And.intro ?pre ?_
    case pre =>
      repeat' refine And.intro ?_ ?_
      all_goals first | exact lenN_of (by decide) | exact lenD_of (by decide) | assumption | exact trivial | exact Nat.zero_le _ | omega
    have id := (inferInstance : Szc (rq s0 l0 t0 * rq s1 l1 t1 + rq z0 k0 u0 * rq z1 k1 u1) _)
    generalize ed : rq s0 l0 t0 * rq s1 l1 t1 + rq z0 k0 u0 * rq z1 k1 u1 = d
    rw [ed] at id
    have qd := rq_cq d
    repeat first | refine And.intro rfl ?_ | refine And.intro True.intro ?_ | refine Or.inl (And.intro rfl ?_) | refine Or.inr (And.intro rfl ?_) | refine And.intro (fun (_ : true = true) => ?_) (fun (h : true = false) => Bool.noConfusion h) | refine And.intro (fun (h : false = true) => Bool.noConfusion h) (fun (_ : false = false) => ?_)
    refine And.intro ?pre ?_
    case pre =>
      repeat' refine And.intro ?_ ?_
      all_goals first | exact lenN_of (by decide) | exact lenD_of (by decide) | assumption | exact trivial | exact Nat.zero_le _ | omega
    have iy := (inferInstance : Szc (rq s1 l1 t1 * rq z0 k0 u0 - rq z1 k1 u1 * rq s0 l0 t0) _)
    generalize ey : rq s1 l1 t1 * rq z0 k0 u0 - rq z1 k1 u1 * rq s0 l0 t0 = y
    rw [ey] at iy
    have qy := rq_cq y
    repeat first | refine And.intro rfl ?_ | refine And.intro True.intro ?_ | refine Or.inl (And.intro rfl ?_) | refine Or.inr (And.intro rfl ?_) | refine And.intro (fun (_ : true = true) => ?_) (fun (h : true = false) => Bool.noConfusion h) | refine And.intro (fun (h : false = true) => Bool.noConfusion h) (fun (_ : false = false) => ?_)
    refine And.intro ?pre ?_
    case pre =>
      repeat' refine And.intro ?_ ?_
      all_goals first | exact lenN_of (by decide) | exact lenD_of (by decide) | assumption | exact trivial | exact Nat.zero_le _ | omega
    rw [qy]
    have iny := (inferInstance : Szc (-y) _)
    generalize eny : -y = ny
    rw [eny] at iny
    have qny := rq_cq ny
    repeat first | refine And.intro rfl ?_ | refine And.intro True.intro ?_ | refine Or.inl (And.intro rfl ?_) | refine Or.inr (And.intro rfl ?_) | refine And.intro (fun (_ : true = true) => ?_) (fun (h : true = false) => Bool.noConfusion h) | refine And.intro (fun (h : false = true) => Bool.noConfusion h) (fun (_ : false = false) => ?_)
    refine And.intro ?pre ?_
    case pre =>
      repeat' refine And.intro ?_ ?_
      all_goals first | exact lenN_of (by decide) | exact lenD_of (by decide) | assumption | exact trivial | exact Nat.zero_le _ | omega
    rw [qx, qny]
    repeat first | refine And.intro rfl ?_ | refine And.intro True.intro ?_ | refine Or.inl (And.intro rfl ?_) | refine Or.inr (And.intro rfl ?_) | refine And.intro (fun (_ : true = true) => ?_) (fun (h : true = false) => Bool.noConfusion h) | refine And.intro (fun (h : false = true) => Bool.noConfusion h) (fun (_ : false = false) => ?_)
    refine Or.inl (And.intro (cmpN (show x = ny by rw [← ex, ← eny, ← ey]; grind)) ?_)
    repeat first | refine And.intro rfl ?_ | refine And.intro True.intro ?_ | refine Or.inl (And.intro rfl ?_) | refine Or.inr (And.intro rfl ?_) | refine And.intro (fun (_ : true = true) => ?_) (fun (h : true = false) => Bool.noConfusion h) | refine And.intro (fun (h : false = true) => Bool.noConfusion h) (fun (_ : false = false) => ?_)
    refine And.intro ?pre ?_
    case pre =>
      repeat' refine And.intro ?_ ?_
      all_goals first | exact lenN_of (by decide) | exact lenD_of (by decide) | assumption | exact trivial | exact Nat.zero_le _ | omega
    have id1 := (inferInstance : Szc (rq s1 l1 t1 * rq s0 l0 t0 + rq z1 k1 u1 * rq z0 k0 u0) _)
    generalize ed1 : rq s1 l1 t1 * rq s0 l0 t0 + rq z1 k1 u1 * rq z0 k0 u0 = d1
    rw [ed1] at id1
    have qd1 := rq_cq d1
    repeat first | refine And.intro rfl ?_ | refine And.intro True.intro ?_ | refine Or.inl (And.intro rfl ?_) | refine Or.inr (And.intro rfl ?_) | refine And.intro (fun (_ : true = true) => ?_) (fun (h : true = false) => Bool.noConfusion h) | refine And.intro (fun (h : false = true) => Bool.noConfusion h) (fun (_ : false = false) => ?_)
    refine And.intro ?pre ?_
    case pre =>
      repeat' refine And.intro ?_ ?_
      all_goals first | exact lenN_of (by decide) | exact lenD_of (by decide) | assumption | exact trivial | exact Nat.zero_le _ | omega
    rw [qd, qd1]
    repeat first | refine And.intro rfl ?_ | refine And.intro True.intro ?_ | refine Or.inl (And.intro rfl ?_) | refine Or.inr (And.intro rfl ?_) | refine And.intro (fun (_ : true = true) => ?_) (fun (h : true = false) => Bool.noConfusion h) | refine And.intro (fun (h : false = true) => Bool.noConfusion h) (fun (_ : false = false) => ?_)
    refine And.intro (fun hc => Bool.noConfusion ((cmpN (show d = d1 by rw [← ed, ← ed1]; grind)).symm.trans hc)) (fun _ => ?_)
    repeat first | refine And.intro rfl ?_ | refine And.intro True.intro ?_ | refine Or.inl (And.intro rfl ?_) | refine Or.inr (And.intro rfl ?_) | refine And.intro (fun (_ : true = true) => ?_) (fun (h : true = false) => Bool.noConfusion h) | refine And.intro (fun (h : false = true) => Bool.noConfusion h) (fun (_ : false = false) => ?_)
    refine And.intro ?pre ?_
    case pre =>
      repeat' refine And.intro ?_ ?_
      all_goals first | exact lenN_of (by decide) | exact lenD_of (by decide) | assumption | exact trivial | exact Nat.zero_le _ | omega

    have isA := (inferInstance : Szc (rq s0 l0 t0 + rq s2 l2 t2) _)
    have isB := (inferInstance : Szc (rq z0 k0 u0 + rq z2 k2 u2) _)
    generalize esA : rq s0 l0 t0 + rq s2 l2 t2 = sA
    generalize esB : rq z0 k0 u0 + rq z2 k2 u2 = sB
    rw [esA] at isA
    rw [esB] at isB
    have qsA := rq_cq sA
    have qsB := rq_cq sB
    repeat first | refine And.intro rfl ?_ | refine And.intro True.intro ?_ | refine Or.inl (And.intro rfl ?_) | refine Or.inr (And.intro rfl ?_) | refine And.intro (fun (_ : true = true) => ?_) (fun (h : true = false) => Bool.noConfusion h) | refine And.intro (fun (h : false = true) => Bool.noConfusion h) (fun (_ : false = false) => ?_)
    refine And.intro ?pre ?_
    case pre =>
      repeat' refine And.intro ?_ ?_
      all_goals first | exact lenN_of (by decide) | exact lenD_of (by decide) | assumption | exact trivial | exact Nat.zero_le _ | omega
    rw [qsA, qsB]
    have ip1 := (inferInstance : Szc (sA * rq z1 k1 u1 - sB * rq s1 l1 t1) _)
    generalize ep1 : sA * rq z1 k1 u1 - sB * rq s1 l1 t1 = p1
    rw [ep1] at ip1
    have qp1 := rq_cq p1
    repeat first | refine And.intro rfl ?_ | refine And.intro True.intro ?_ | refine Or.inl (And.intro rfl ?_) | refine Or.inr (And.intro rfl ?_) | refine And.intro (fun (_ : true = true) => ?_) (fun (h : true = false) => Bool.noConfusion h) | refine And.intro (fun (h : false = true) => Bool.noConfusion h) (fun (_ : false = false) => ?_)
    refine And.intro ?pre ?_
    case pre =>
      repeat' refine And.intro ?_ ?_
      all_goals first | exact lenN_of (by decide) | exact lenD_of (by decide) | assumption | exact trivial | exact Nat.zero_le _ | omega
    have ip2 := (inferInstance : Szc (rq s2 l2 t2 * rq z1 k1 u1 - rq z2 k2 u2 * rq s1 l1 t1) _)
    generalize ep2 : rq s2 l2 t2 * rq z1 k1 u1 - rq z2 k2 u2 * rq s1 l1 t1 = p2
    rw [ep2] at ip2
    have qp2 := rq_cq p2
    repeat first | refine And.intro rfl ?_ | refine And.intro True.intro ?_ | refine Or.inl (And.intro rfl ?_) | refine Or.inr (And.intro rfl ?_) | refine And.intro (fun (_ : true = true) => ?_) (fun (h : true = false) => Bool.noConfusion h) | refine And.intro (fun (h : false = true) => Bool.noConfusion h) (fun (_ : false = false) => ?_)
    refine And.intro ?pre ?_
    case pre =>
      repeat' refine And.intro ?_ ?_
      all_goals first | exact lenN_of (by decide) | exact lenD_of (by decide) | assumption | exact trivial | exact Nat.zero_le _ | omega
    rw [qx, qp2]
    have ip3 := (inferInstance : Szc (x + p2) _)
    generalize ep3 : x + p2 = p3
    rw [ep3] at ip3
    have qp3 := rq_cq p3
    repeat first | refine And.intro rfl ?_ | refine And.intro True.intro ?_ | refine Or.inl (And.intro rfl ?_) | refine Or.inr (And.intro rfl ?_) | refine And.intro (fun (_ : true = true) => ?_) (fun (h : true = false) => Bool.noConfusion h) | refine And.intro (fun (h : false = true) => Bool.noConfusion h) (fun (_ : false = false) => ?_)
    refine And.intro ?pre ?_
    case pre =>
      repeat' refine And.intro ?_ ?_
      all_goals first | exact lenN_of (by decide) | exact lenD_of (by decide) | assumption | exact trivial | exact Nat.zero_le _ | omega
    rw [qp1, qp3]
    repeat first | refine And.intro rfl ?_ | refine And.intro True.intro ?_ | refine Or.inl (And.intro rfl ?_) | refine Or.inr (And.intro rfl ?_) | refine And.intro (fun (_ : true = true) => ?_) (fun (h : true = false) => Bool.noConfusion h) | refine And.intro (fun (h : false = true) => Bool.noConfusion h) (fun (_ : false = false) => ?_)
    refine Or.inl (And.intro (cmpN (show p1 = p3 by rw [← ep1, ← ep3, ← ep2, ← ex, ← esA, ← esB]; grind)) ?_)
    repeat first | refine And.intro rfl ?_ | refine And.intro True.intro ?_ | refine Or.inl (And.intro rfl ?_) | refine Or.inr (And.intro rfl ?_) | refine And.intro (fun (_ : true = true) => ?_) (fun (h : true = false) => Bool.noConfusion h) | refine And.intro (fun (h : false = true) => Bool.noConfusion h) (fun (_ : false = false) => ?_)
    refine And.intro ?pre ?_
    case pre =>
      repeat' refine And.intro ?_ ?_
      all_goals first | exact lenN_of (by decide) | exact lenD_of (by decide) | assumption | exact trivial | exact Nat.zero_le _ | omega
    rw [qsA, qsB]
    have ir1 := (inferInstance : Szc (sA * rq s1 l1 t1 + sB * rq z1 k1 u1) _)
    generalize er1 : sA * rq s1 l1 t1 + sB * rq z1 k1 u1 = r1
    rw [er1] at ir1
    have qr1 := rq_cq r1
    repeat first | refine And.intro rfl ?_ | refine And.intro True.intro ?_ | refine Or.inl (And.intro rfl ?_) | refine Or.inr (And.intro rfl ?_) | refine And.intro (fun (_ : true = true) => ?_) (fun (h : true = false) => Bool.noConfusion h) | refine And.intro (fun (h : false = true) => Bool.noConfusion h) (fun (_ : false = false) => ?_)
    refine And.intro ?pre ?_
    case pre =>
      repeat' refine And.intro ?_ ?_
      all_goals first | exact lenN_of (by decide) | exact lenD_of (by decide) | assumption | exact trivial | exact Nat.zero_le _ | omega
    have ir2 := (inferInstance : Szc (rq s2 l2 t2 * rq s1 l1 t1 + rq z2 k2 u2 * rq z1 k1 u1) _)
    generalize er2 : rq s2 l2 t2 * rq s1 l1 t1 + rq z2 k2 u2 * rq z1 k1 u1 = r2
    rw [er2] at ir2
    have qr2 := rq_cq r2
    repeat first | refine And.intro rfl ?_ | refine And.intro True.intro ?_ | refine Or.inl (And.intro rfl ?_) | refine Or.inr (And.intro rfl ?_) | refine And.intro (fun (_ : true = true) => ?_) (fun (h : true = false) => Bool.noConfusion h) | refine And.intro (fun (h : false = true) => Bool.noConfusion h) (fun (_ : false = false) => ?_)
    refine And.intro ?pre ?_
    case pre =>
      repeat' refine And.intro ?_ ?_
      all_goals first | exact lenN_of (by decide) | exact lenD_of (by decide) | assumption | exact trivial | exact Nat.zero_le _ | omega
    rw [qd, qr2]
    have ir3 := (inferInstance : Szc (d + r2) _)
    generalize er3 : d + r2 = r3
    rw [er3] at ir3
    have qr3 := rq_cq r3
    repeat first | refine And.intro rfl ?_ | refine And.intro True.intro ?_ | refine Or.inl (And.intro rfl ?_) | refine Or.inr (And.intro rfl ?_) | refine And.intro (fun (_ : true = true) => ?_) (fun (h : true = false) => Bool.noConfusion h) | refine And.intro (fun (h : false = true) => Bool.noConfusion h) (fun (_ : false = false) => ?_)
    refine And.intro ?pre ?_
    case pre =>
      repeat' refine And.intro ?_ ?_
      all_goals first | exact lenN_of (by decide) | exact lenD_of (by decide) | assumption | exact trivial | exact Nat.zero_le _ | omega
    rw [qr1, qr3]
    repeat first | refine And.intro rfl ?_ | refine And.intro True.intro ?_ | refine Or.inl (And.intro rfl ?_) | refine Or.inr (And.intro rfl ?_) | refine And.intro (fun (_ : true = true) => ?_) (fun (h : true = false) => Bool.noConfusion h) | refine And.intro (fun (h : false = true) => Bool.noConfusion h) (fun (_ : false = false) => ?_)
    refine And.intro (fun hc => Bool.noConfusion ((cmpN (show r1 = r3 by rw [← er1, ← er3, ← er2, ← ed, ← esA, ← esB]; grind)).symm.trans hc)) (fun _ => ?_)
    repeat first | refine And.intro rfl ?_ | refine And.intro True.intro ?_ | refine Or.inl (And.intro rfl ?_) | refine Or.inr (And.intro rfl ?_) | refine And.intro (fun (_ : true = true) => ?_) (fun (h : true = false) => Bool.noConfusion h) | refine And.intro (fun (h : false = true) => Bool.noConfusion h) (fun (_ : false = false) => ?_)
    refine And.intro ?pre ?_
    case pre =>
      repeat' refine And.intro ?_ ?_
      all_goals first | exact lenN_of (by decide) | exact lenD_of (by decide) | assumption | exact trivial | exact Nat.zero_le _ | omega
    rw [qx]
    have ig1 := (inferInstance : Szc (x * x) _)
    generalize eg1 : x * x = g1
    rw [eg1] at ig1
    have qg1 := rq_cq g1
    repeat first | refine And.intro rfl ?_ | refine And.intro True.intro ?_ | refine Or.inl (And.intro rfl ?_) | refine Or.inr (And.intro rfl ?_) | refine And.intro (fun (_ : true = true) => ?_) (fun (h : true = false) => Bool.noConfusion h) | refine And.intro (fun (h : false = true) => Bool.noConfusion h) (fun (_ : false = false) => ?_)
    refine And.intro ?pre ?_
    case pre =>
      repeat' refine And.intro ?_ ?_
      all_goals first | exact lenN_of (by decide) | exact lenD_of (by decide) | assumption | exact trivial | exact Nat.zero_le _ | omega
    rw [qd]
    have ig2 := (inferInstance : Szc (d * d) _)
    generalize eg2 : d * d = g2
    rw [eg2] at ig2
    have qg2 := rq_cq g2
    repeat first | refine And.intro rfl ?_ | refine And.intro True.intro ?_ | refine Or.inl (And.intro rfl ?_) | refine Or.inr (And.intro rfl ?_) | refine And.intro (fun (_ : true = true) => ?_) (fun (h : true = false) => Bool.noConfusion h) | refine And.intro (fun (h : false = true) => Bool.noConfusion h) (fun (_ : false = false) => ?_)
    refine And.intro ?pre ?_
    case pre =>
      repeat' refine And.intro ?_ ?_
      all_goals first | exact lenN_of (by decide) | exact lenD_of (by decide) | assumption | exact trivial | exact Nat.zero_le _ | omega
    rw [qg1, qg2]
    have ig3 := (inferInstance : Szc (g1 + g2) _)
    generalize eg3 : g1 + g2 = g3
    rw [eg3] at ig3
    have qg3 := rq_cq g3
    repeat first | refine And.intro rfl ?_ | refine And.intro True.intro ?_ | refine Or.inl (And.intro rfl ?_) | refine Or.inr (And.intro rfl ?_) | refine And.intro (fun (_ : true = true) => ?_) (fun (h : true = false) => Bool.noConfusion h) | refine And.intro (fun (h : false = true) => Bool.noConfusion h) (fun (_ : false = false) => ?_)
    refine And.intro ?pre ?_
    case pre =>
      repeat' refine And.intro ?_ ?_
      all_goals first | exact lenN_of (by decide) | exact lenD_of (by decide) | assumption | exact trivial | exact Nat.zero_le _ | omega
    have ig4 := (inferInstance : Szc (rq s0 l0 t0 * rq s0 l0 t0 + rq z0 k0 u0 * rq z0 k0 u0) _)
    generalize eg4 : rq s0 l0 t0 * rq s0 l0 t0 + rq z0 k0 u0 * rq z0 k0 u0 = g4
    rw [eg4] at ig4
    have qg4 := rq_cq g4
    repeat first | refine And.intro rfl ?_ | refine And.intro True.intro ?_ | refine Or.inl (And.intro rfl ?_) | refine Or.inr (And.intro rfl ?_) | refine And.intro (fun (_ : true = true) => ?_) (fun (h : true = false) => Bool.noConfusion h) | refine And.intro (fun (h : false = true) => Bool.noConfusion h) (fun (_ : false = false) => ?_)
    refine And.intro ?pre ?_
    case pre =>
      repeat' refine And.intro ?_ ?_
      all_goals first | exact lenN_of (by decide) | exact lenD_of (by decide) | assumption | exact trivial | exact Nat.zero_le _ | omega
    have ig5 := (inferInstance : Szc (rq s1 l1 t1 * rq s1 l1 t1 + rq z1 k1 u1 * rq z1 k1 u1) _)
    generalize eg5 : rq s1 l1 t1 * rq s1 l1 t1 + rq z1 k1 u1 * rq z1 k1 u1 = g5
    rw [eg5] at ig5
    have qg5 := rq_cq g5
    repeat first | refine And.intro rfl ?_ | refine And.intro True.intro ?_ | refine Or.inl (And.intro rfl ?_) | refine Or.inr (And.intro rfl ?_) | refine And.intro (fun (_ : true = true) => ?_) (fun (h : true = false) => Bool.noConfusion h) | refine And.intro (fun (h : false = true) => Bool.noConfusion h) (fun (_ : false = false) => ?_)
    refine And.intro ?pre ?_
    case pre =>
      repeat' refine And.intro ?_ ?_
      all_goals first | exact lenN_of (by decide) | exact lenD_of (by decide) | assumption | exact trivial | exact Nat.zero_le _ | omega
    rw [qg4, qg5]
    have ig6 := (inferInstance : Szc (g4 * g5) _)
    generalize eg6 : g4 * g5 = g6
    rw [eg6] at ig6
    have qg6 := rq_cq g6
    repeat first | refine And.intro rfl ?_ | refine And.intro True.intro ?_ | refine Or.inl (And.intro rfl ?_) | refine Or.inr (And.intro rfl ?_) | refine And.intro (fun (_ : true = true) => ?_) (fun (h : true = false) => Bool.noConfusion h) | refine And.intro (fun (h : false = true) => Bool.noConfusion h) (fun (_ : false = false) => ?_)
    refine And.intro ?pre ?_
    case pre =>
      repeat' refine And.intro ?_ ?_
      all_goals first | exact lenN_of (by decide) | exact lenD_of (by decide) | assumption | exact trivial | exact Nat.zero_le _ | omega
    rw [qg3, qg6]
    repeat first | refine And.intro rfl ?_ | refine And.intro True.intro ?_ | refine Or.inl (And.intro rfl ?_) | refine Or.inr (And.intro rfl ?_) | refine And.intro (fun (_ : true = true) => ?_) (fun (h : true = false) => Bool.noConfusion h) | refine And.intro (fun (h : false = true) => Bool.noConfusion h) (fun (_ : false = false) => ?_)
    refine Or.inl (And.intro (cmpE (show g3 = g6 by rw [← eg3, ← eg1, ← eg2, ← eg6, ← eg4, ← eg5, ← ex, ← ed]; grind)) ?_)
    repeat first | refine And.intro rfl ?_ | refine And.intro True.intro ?_ | refine Or.inl (And.intro rfl ?_) | refine Or.inr (And.intro rfl ?_) | refine And.intro (fun (_ : true = true) => ?_) (fun (h : true = false) => Bool.noConfusion h) | refine And.intro (fun (h : false = true) => Bool.noConfusion h) (fun (_ : false = false) => ?_)
    refine And.intro ?pre ?_
    case pre =>
      repeat' refine And.intro ?_ ?_
      all_goals first | exact lenN_of (by decide) | exact lenD_of (by decide) | assumption | exact trivial | exact Nat.zero_le _ | omega
    rw [qsA, qsB]
    have ifA := (inferInstance : Szc (sA - rq s2 l2 t2) _)
    have ifB := (inferInstance : Szc (sB - rq z2 k2 u2) _)
    generalize efA : sA - rq s2 l2 t2 = fA
    generalize efB : sB - rq z2 k2 u2 = fB
    rw [efA] at ifA
    rw [efB] at ifB
    have qfA := rq_cq fA
    have qfB := rq_cq fB
    repeat first | refine And.intro rfl ?_ | refine And.intro True.intro ?_ | refine Or.inl (And.intro rfl ?_) | refine Or.inr (And.intro rfl ?_) | refine And.intro (fun (_ : true = true) => ?_) (fun (h : true = false) => Bool.noConfusion h) | refine And.intro (fun (h : false = true) => Bool.noConfusion h) (fun (_ : false = false) => ?_)
    refine And.intro ?pre ?_
    case pre =>
      repeat' refine And.intro ?_ ?_
      all_goals first | exact lenN_of (by decide) | exact lenD_of (by decide) | assumption | exact trivial | exact Nat.zero_le _ | omega
    rw [qfA, qfB]
    repeat first | refine And.intro rfl ?_ | refine And.intro True.intro ?_ | refine Or.inl (And.intro rfl ?_) | refine Or.inr (And.intro rfl ?_) | refine And.intro (fun (_ : true = true) => ?_) (fun (h : true = false) => Bool.noConfusion h) | refine And.intro (fun (h : false = true) => Bool.noConfusion h) (fun (_ : false = false) => ?_)
    refine Or.inl (And.intro (decide_eq_true (show fA = rq s0 l0 t0 ∧ fB = rq z0 k0 u0 from ⟨by rw [← efA, ← esA]; grind, by rw [← efB, ← esB]; grind⟩)) ?_)
    repeat first | refine And.intro rfl ?_ | refine And.intro True.intro ?_ | refine Or.inl (And.intro rfl ?_) | refine Or.inr (And.intro rfl ?_) | refine And.intro (fun (_ : true = true) => ?_) (fun (h : true = false) => Bool.noConfusion h) | refine And.intro (fun (h : false = true) => Bool.noConfusion h) (fun (_ : false = false) => ?_)
    rfl
  · cases h

end Go.Gm
