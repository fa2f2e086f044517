/-
  The statements about points: PointGrids. Plain theorems; no condition.
-/
import Derived.Test.YtihmifpdnipdmaaLawP
import Derived.Test.YtihmifpdnipdmaaPtE
import Derived.Test.YtihmifpdnipdmaaR8C
set_option linter.all false
namespace Go.Gm
open Go.Proofs


attribute [local irreducible] mkRat rq meetD meetQ footD footQ mirQ rnd grdB cmpQ samePR lightPR

def TW5 : Table := [(70, sPtOn), (67, sGrid)] ++ TW1
theorem TW5_ok : TabOk TW5 := TabOk.append (TabOk.cons ok_r8On (TabOk.cons ok_r8Grid TabOk.nil)) TW1_ok

def sPointGrids : List RV → Option (Prop × Res)
  | [.agg [.b (.val (.bool s0)), .b (.nat l0), .b (.nat t0), .b (.val (.bool z0)), .b (.nat k0), .b (.nat u0)], .agg [.b (.val (.bool s1)), .b (.nat l1), .b (.nat t1), .b (.val (.bool z1)), .b (.nat k1), .b (.nat u1)], .agg [.b (.val (.bool s2)), .b (.nat l2), .b (.nat t2)]] => some (True, .r (.val (.bool true)))
  | _ => none

set_option maxRecDepth 20000 in
set_option maxHeartbeats 8000000 in
theorem ok_PointGrids : Ok1 14 sPointGrids := by
  refine ok_of TW5_ok Try.func14 rfl (by kernel_rfl) ?_
  intro xs pre res h hp hlim
  unfold sPointGrids at h
  split at h
  · rename_i s0 l0 t0 z0 k0 u0 s1 l1 t1 z1 k1 u1 s2 l2 t2
    cases h
    refine And.intro (Nat.le_of_ble_eq_true rfl) ?_
    repeat first | refine And.intro rfl ?_ | refine Or.inl (And.intro rfl ?_) | refine Or.inr (And.intro rfl ?_) | refine And.intro (fun (_ : true = true) => ?_) (fun (h : true = false) => Bool.noConfusion h) | refine And.intro (fun (h : false = true) => Bool.noConfusion h) (fun (_ : false = false) => ?_)
    repeat first | refine And.intro rfl ?_ | refine And.intro True.intro ?_ | refine Or.inl (And.intro rfl ?_) | refine Or.inr (And.intro rfl ?_) | refine And.intro (fun (_ : true = true) => ?_) (fun (h : true = false) => Bool.noConfusion h) | refine And.intro (fun (h : false = true) => Bool.noConfusion h) (fun (_ : false = false) => ?_)
    by_cases g0 : (lightPR 4 ⟨s0, l0, t0, z0, k0, u0⟩) = true
    case neg =>
      refine Or.inr (And.intro (show (!(lightPR 4 ⟨s0, l0, t0, z0, k0, u0⟩)) = true by simp [g0]) ?_)
      repeat first | refine And.intro rfl ?_ | refine And.intro True.intro ?_ | refine Or.inl (And.intro rfl ?_) | refine Or.inr (And.intro rfl ?_) | refine And.intro (fun (_ : true = true) => ?_) (fun (h : true = false) => Bool.noConfusion h) | refine And.intro (fun (h : false = true) => Bool.noConfusion h) (fun (_ : false = false) => ?_)
      rfl
    refine Or.inl (And.intro (show (!(lightPR 4 ⟨s0, l0, t0, z0, k0, u0⟩)) = false by simp [g0]) ?_)
    repeat first | refine And.intro rfl ?_ | refine And.intro True.intro ?_ | refine Or.inl (And.intro rfl ?_) | refine Or.inr (And.intro rfl ?_) | refine And.intro (fun (_ : true = true) => ?_) (fun (h : true = false) => Bool.noConfusion h) | refine And.intro (fun (h : false = true) => Bool.noConfusion h) (fun (_ : false = false) => ?_)
    by_cases g1 : (lightPR 4 ⟨s1, l1, t1, z1, k1, u1⟩) = true
    case neg =>
      refine Or.inr (And.intro (show (!(lightPR 4 ⟨s1, l1, t1, z1, k1, u1⟩)) = true by simp [g1]) ?_)
      repeat first | refine And.intro rfl ?_ | refine And.intro True.intro ?_ | refine Or.inl (And.intro rfl ?_) | refine Or.inr (And.intro rfl ?_) | refine And.intro (fun (_ : true = true) => ?_) (fun (h : true = false) => Bool.noConfusion h) | refine And.intro (fun (h : false = true) => Bool.noConfusion h) (fun (_ : false = false) => ?_)
      rfl
    refine Or.inl (And.intro (show (!(lightPR 4 ⟨s1, l1, t1, z1, k1, u1⟩)) = false by simp [g1]) ?_)
    repeat first | refine And.intro rfl ?_ | refine And.intro True.intro ?_ | refine Or.inl (And.intro rfl ?_) | refine Or.inr (And.intro rfl ?_) | refine And.intro (fun (_ : true = true) => ?_) (fun (h : true = false) => Bool.noConfusion h) | refine And.intro (fun (h : false = true) => Bool.noConfusion h) (fun (_ : false = false) => ?_)
    refine And.intro (fun hc => ?_) (fun hc => ?_)
    · repeat first | refine And.intro rfl ?_ | refine And.intro True.intro ?_ | refine Or.inl (And.intro rfl ?_) | refine Or.inr (And.intro rfl ?_) | refine And.intro (fun (_ : true = true) => ?_) (fun (h : true = false) => Bool.noConfusion h) | refine And.intro (fun (h : false = true) => Bool.noConfusion h) (fun (_ : false = false) => ?_)
      rfl
    have g2 : (decide ((l2.length : Int) ≤ 4 ∧ (t2.length : Int) ≤ 4)) = true := by
      have hc : (!(decide ((l2.length : Int) ≤ 4 ∧ (t2.length : Int) ≤ 4))) = false := hc
      simpa using hc
    have w0 := lightPR_le (n := 4) g0
    obtain ⟨hl0, ht0, hk0, hu0⟩ := w0
    have hl0 : l0.length ≤ 4 := hl0
    have ht0 : t0.length ≤ 4 := ht0
    have hk0 : k0.length ≤ 4 := hk0
    have hu0 : u0.length ≤ 4 := hu0
    have iX0 : Szc (rq s0 l0 t0) (4 + 1) := ⟨Sz.rq hlim.1.2.1 hlim.1.2.2.1 hl0 ht0⟩
    have iY0 : Szc (rq z0 k0 u0) (4 + 1) := ⟨Sz.rq hlim.1.2.2.2.2.1 hlim.1.2.2.2.2.2.1 hk0 hu0⟩
    have w1 := lightPR_le (n := 4) g1
    obtain ⟨hl1, ht1, hk1, hu1⟩ := w1
    have hl1 : l1.length ≤ 4 := hl1
    have ht1 : t1.length ≤ 4 := ht1
    have hk1 : k1.length ≤ 4 := hk1
    have hu1 : u1.length ≤ 4 := hu1
    have iX1 : Szc (rq s1 l1 t1) (4 + 1) := ⟨Sz.rq hlim.2.1.2.1 hlim.2.1.2.2.1 hl1 ht1⟩
    have iY1 : Szc (rq z1 k1 u1) (4 + 1) := ⟨Sz.rq hlim.2.1.2.2.2.2.1 hlim.2.1.2.2.2.2.2.1 hk1 hu1⟩
    have w2 := of_decide_eq_true g2
    have hl2 : l2.length ≤ 4 := by omega
    have ht2 : t2.length ≤ 4 := by omega
    have iX2 : Szc (rq s2 l2 t2) (4 + 1) := ⟨Sz.rq hlim.2.2.1.2.1 hlim.2.2.1.2.2.1 hl2 ht2⟩
    repeat first | refine And.intro rfl ?_ | refine And.intro True.intro ?_ | refine Or.inl (And.intro rfl ?_) | refine Or.inr (And.intro rfl ?_) | refine And.intro (fun (_ : true = true) => ?_) (fun (h : true = false) => Bool.noConfusion h) | refine And.intro (fun (h : false = true) => Bool.noConfusion h) (fun (_ : false = false) => ?_)
    refine And.intro ?pre ?_
    case pre =>
      repeat' refine And.intro ?_ ?_
      all_goals first | exact lenN_of (by decide) | exact lenD_of (by decide) | assumption | exact trivial | exact Nat.zero_le _ | omega
    generalize hG : grdB (rq s0 l0 t0, rq z0 k0 u0) = G
    generalize hx : rnd (rq s0 l0 t0) = x
    generalize hy : rnd (rq z0 k0 u0) = y
    repeat first | refine And.intro rfl ?_ | refine And.intro True.intro ?_ | refine Or.inl (And.intro rfl ?_) | refine Or.inr (And.intro rfl ?_) | refine And.intro (fun (_ : true = true) => ?_) (fun (h : true = false) => Bool.noConfusion h) | refine And.intro (fun (h : false = true) => Bool.noConfusion h) (fun (_ : false = false) => ?_)
    refine And.intro ?pre ?_
    case pre =>
      repeat' refine And.intro ?_ ?_
      all_goals first | exact lenN_of (by decide) | exact lenD_of (by decide) | assumption | exact trivial | exact Nat.zero_le _ | omega
    rw [hG, hx, hy]
    repeat first | refine And.intro rfl ?_ | refine And.intro True.intro ?_ | refine Or.inl (And.intro rfl ?_) | refine Or.inr (And.intro rfl ?_) | refine And.intro (fun (_ : true = true) => ?_) (fun (h : true = false) => Bool.noConfusion h) | refine And.intro (fun (h : false = true) => Bool.noConfusion h) (fun (_ : false = false) => ?_)
    refine And.intro ?pre ?_
    case pre =>
      repeat' refine And.intro ?_ ?_
      all_goals first | exact lenN_of (by decide) | exact lenD_of (by decide) | assumption | exact trivial | exact Nat.zero_le _ | omega

    have ioA := (inferInstance : Szc (rq s0 l0 t0 + (rq s1 l1 t1 - rq s0 l0 t0) * rq s2 l2 t2) _)
    have ioB := (inferInstance : Szc (rq z0 k0 u0 + (rq z1 k1 u1 - rq z0 k0 u0) * rq s2 l2 t2) _)
    generalize eoA : rq s0 l0 t0 + (rq s1 l1 t1 - rq s0 l0 t0) * rq s2 l2 t2 = oA
    generalize eoB : rq z0 k0 u0 + (rq z1 k1 u1 - rq z0 k0 u0) * rq s2 l2 t2 = oB
    rw [eoA] at ioA
    rw [eoB] at ioB
    have qoA := rq_cq oA
    have qoB := rq_cq oB
    repeat first | refine And.intro rfl ?_ | refine And.intro True.intro ?_ | refine Or.inl (And.intro rfl ?_) | refine Or.inr (And.intro rfl ?_) | refine And.intro (fun (_ : true = true) => ?_) (fun (h : true = false) => Bool.noConfusion h) | refine And.intro (fun (h : false = true) => Bool.noConfusion h) (fun (_ : false = false) => ?_)
    refine And.intro ?pre ?_
    case pre =>
      repeat' refine And.intro ?_ ?_
      all_goals first | exact lenN_of (by decide) | exact lenD_of (by decide) | assumption | exact trivial | exact Nat.zero_le _ | omega
    rw [eoA, eoB]
    repeat first | refine And.intro rfl ?_ | refine And.intro True.intro ?_ | refine Or.inl (And.intro rfl ?_) | refine Or.inr (And.intro rfl ?_) | refine And.intro (fun (_ : true = true) => ?_) (fun (h : true = false) => Bool.noConfusion h) | refine And.intro (fun (h : false = true) => Bool.noConfusion h) (fun (_ : false = false) => ?_)
    refine And.intro ?pre ?_
    case pre =>
      repeat' refine And.intro ?_ ?_
      all_goals first | exact lenN_of (by decide) | exact lenD_of (by decide) | assumption | exact trivial | exact Nat.zero_le _ | omega
    repeat first | refine And.intro rfl ?_ | refine And.intro True.intro ?_ | refine Or.inl (And.intro rfl ?_) | refine Or.inr (And.intro rfl ?_) | refine And.intro (fun (_ : true = true) => ?_) (fun (h : true = false) => Bool.noConfusion h) | refine And.intro (fun (h : false = true) => Bool.noConfusion h) (fun (_ : false = false) => ?_)
    refine Or.inl (And.intro (show samePR _ _ = true from samePR_iff.2 rfl) ?_)
    repeat first | refine And.intro rfl ?_ | refine And.intro True.intro ?_ | refine Or.inl (And.intro rfl ?_) | refine Or.inr (And.intro rfl ?_) | refine And.intro (fun (_ : true = true) => ?_) (fun (h : true = false) => Bool.noConfusion h) | refine And.intro (fun (h : false = true) => Bool.noConfusion h) (fun (_ : false = false) => ?_)
    cases G with
    | true =>
      repeat first | refine And.intro rfl ?_ | refine And.intro True.intro ?_ | refine Or.inl (And.intro rfl ?_) | refine Or.inr (And.intro rfl ?_) | refine And.intro (fun (_ : true = true) => ?_) (fun (h : true = false) => Bool.noConfusion h) | refine And.intro (fun (h : false = true) => Bool.noConfusion h) (fun (_ : false = false) => ?_)
      refine Or.inl (And.intro (by simp) ?_)
      repeat first | refine And.intro rfl ?_ | refine And.intro True.intro ?_ | refine Or.inl (And.intro rfl ?_) | refine Or.inr (And.intro rfl ?_) | refine And.intro (fun (_ : true = true) => ?_) (fun (h : true = false) => Bool.noConfusion h) | refine And.intro (fun (h : false = true) => Bool.noConfusion h) (fun (_ : false = false) => ?_)
      rfl
    | false =>
      repeat first | refine And.intro rfl ?_ | refine And.intro True.intro ?_ | refine Or.inl (And.intro rfl ?_) | refine Or.inr (And.intro rfl ?_) | refine And.intro (fun (_ : true = true) => ?_) (fun (h : true = false) => Bool.noConfusion h) | refine And.intro (fun (h : false = true) => Bool.noConfusion h) (fun (_ : false = false) => ?_)
      rfl
  · cases h

end Go.Gm
