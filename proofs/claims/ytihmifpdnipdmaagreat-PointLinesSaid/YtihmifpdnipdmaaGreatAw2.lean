/-
  The examples of the statements about points: awake. Plain theorems; no condition.
-/
import Derived.Test.YtihmifpdnipdmaaGreatAw1
import Derived.Test.YtihmifpdnipdmaaGreatPtD
set_option linter.all false
namespace Go.Gm
open Go.Proofs

theorem szS {q : Rat} (h : q.num.natAbs < 4294967296 ∧ q.den < 4294967296) : Szc q 1 := ⟨by rw [B_eq, Nat.pow_one]; exact h.1, by rw [B_eq, Nat.pow_one]; exact h.2⟩

def TW0 : Table := [(16, sPtOf), (6, sMeet), (8, sFoot), (10, sMirror), (17, sGrid), (18, sPart), (19, sPtOf), (12, sExact), (21, sSameRat), (15, sShortP), (36, sLight3)] ++ TPtB
theorem TW0_ok : TabOk TW0 := TabOk.append (TabOk.cons ok_ptOf (TabOk.cons ok_Meet (TabOk.cons ok_Foot (TabOk.cons ok_Mirror (TabOk.cons ok_Grid (TabOk.cons ok_part (TabOk.cons ok_Of8 (TabOk.cons ok_Exact (TabOk.cons ok_SameRat8 (TabOk.cons ok_Short (TabOk.cons ok_Few TabOk.nil))))))))))) TPtB_ok

attribute [local irreducible] mkRat rq meetD meetQ footD footQ mirQ rnd grdB cmpQ samePR


set_option maxRecDepth 20000 in
set_option maxHeartbeats 4000000 in
theorem ok_awake : Ok1 5 sTrue0 := by
  refine ok_of TW0_ok Tryz.func5 rfl (by kernel_rfl) ?_
  intro xs pre res h hp hlim
  unfold sTrue0 at h
  split at h
  · cases h
    obtain ⟨c0, e0⟩ : ∃ c, (((0 : Int)) : Rat) = c := ⟨_, rfl⟩
    have v0 : c0 = 0 := by rw [← e0]; rfl
    have i0 : Szc c0 1 := by rw [v0]; exact szS (by decide +kernel)
    have q0 := rq_cq c0
    obtain ⟨c1, e1⟩ : ∃ c, (((1 : Int)) : Rat) = c := ⟨_, rfl⟩
    have v1 : c1 = 1 := by rw [← e1]; rfl
    have i1 : Szc c1 1 := by rw [v1]; exact szS (by decide +kernel)
    have q1 := rq_cq c1
    obtain ⟨c2, e2⟩ : ∃ c, (((2 : Int)) : Rat) = c := ⟨_, rfl⟩
    have v2 : c2 = 2 := by rw [← e2]; rfl
    have i2 : Szc c2 1 := by rw [v2]; exact szS (by decide +kernel)
    have q2 := rq_cq c2
    obtain ⟨c3, e3⟩ : ∃ c, (((3 : Int)) : Rat) = c := ⟨_, rfl⟩
    have v3 : c3 = 3 := by rw [← e3]; rfl
    have i3 : Szc c3 1 := by rw [v3]; exact szS (by decide +kernel)
    have q3 := rq_cq c3
    obtain ⟨c4, e4⟩ : ∃ c, (((4 : Int)) : Rat) = c := ⟨_, rfl⟩
    have v4 : c4 = 4 := by rw [← e4]; rfl
    have i4 : Szc c4 1 := by rw [v4]; exact szS (by decide +kernel)
    have q4 := rq_cq c4
    refine And.intro (Nat.le_of_ble_eq_true rfl) ?_
    repeat first | refine And.intro rfl ?_ | refine Or.inl (And.intro rfl ?_) | refine Or.inr (And.intro rfl ?_) | refine And.intro (fun (_ : true = true) => ?_) (fun (h : true = false) => Bool.noConfusion h) | refine And.intro (fun (h : false = true) => Bool.noConfusion h) (fun (_ : false = false) => ?_)
    repeat first | refine And.intro rfl ?_ | refine And.intro True.intro ?_ | refine Or.inl (And.intro rfl ?_) | refine Or.inr (And.intro rfl ?_) | refine And.intro (fun (_ : true = true) => ?_) (fun (h : true = false) => Bool.noConfusion h) | refine And.intro (fun (h : false = true) => Bool.noConfusion h) (fun (_ : false = false) => ?_)
    refine And.intro (And.intro (show InR _ from ⟨by decide, by decide⟩) (show InR _ from ⟨by decide, by decide⟩)) ?_
    rw [e0]
    repeat first | refine And.intro rfl ?_ | refine And.intro True.intro ?_ | refine Or.inl (And.intro rfl ?_) | refine Or.inr (And.intro rfl ?_) | refine And.intro (fun (_ : true = true) => ?_) (fun (h : true = false) => Bool.noConfusion h) | refine And.intro (fun (h : false = true) => Bool.noConfusion h) (fun (_ : false = false) => ?_)
    refine And.intro (And.intro (show InR _ from ⟨by decide, by decide⟩) (show InR _ from ⟨by decide, by decide⟩)) ?_
    rw [e2]
    repeat first | refine And.intro rfl ?_ | refine And.intro True.intro ?_ | refine Or.inl (And.intro rfl ?_) | refine Or.inr (And.intro rfl ?_) | refine And.intro (fun (_ : true = true) => ?_) (fun (h : true = false) => Bool.noConfusion h) | refine And.intro (fun (h : false = true) => Bool.noConfusion h) (fun (_ : false = false) => ?_)
    refine And.intro (And.intro (show InR _ from ⟨by decide, by decide⟩) (show InR _ from ⟨by decide, by decide⟩)) ?_
    rw [e0, e2]
    repeat first | refine And.intro rfl ?_ | refine And.intro True.intro ?_ | refine Or.inl (And.intro rfl ?_) | refine Or.inr (And.intro rfl ?_) | refine And.intro (fun (_ : true = true) => ?_) (fun (h : true = false) => Bool.noConfusion h) | refine And.intro (fun (h : false = true) => Bool.noConfusion h) (fun (_ : false = false) => ?_)
    refine And.intro (And.intro (show InR _ from ⟨by decide, by decide⟩) (show InR _ from ⟨by decide, by decide⟩)) ?_
    rw [e2, e0]
    repeat first | refine And.intro rfl ?_ | refine And.intro True.intro ?_ | refine Or.inl (And.intro rfl ?_) | refine Or.inr (And.intro rfl ?_) | refine And.intro (fun (_ : true = true) => ?_) (fun (h : true = false) => Bool.noConfusion h) | refine And.intro (fun (h : false = true) => Bool.noConfusion h) (fun (_ : false = false) => ?_)
    refine And.intro ?pre ?_
    case pre =>
      repeat' refine And.intro ?_ ?_
      all_goals first | exact lenN_of (by decide) | exact lenD_of (by decide) | assumption | exact trivial | exact Nat.zero_le _ | omega
    rw [q0, q2]
    have m1 : decide (meetD (c0, c0) (c2, c2) (c0, c2) (c2, c0) = 0) = false := by rw [v0, v2]; decide +kernel
    have m2 : meetQ (c0, c0) (c2, c2) (c0, c2) (c2, c0) = (1, 1) := by rw [v0, v2]; decide +kernel
    rw [m1]
    generalize meetQ (c0, c0) (c2, c2) (c0, c2) (c2, c0) = x at m2
    repeat first | refine And.intro rfl ?_ | refine And.intro True.intro ?_ | refine Or.inl (And.intro rfl ?_) | refine Or.inr (And.intro rfl ?_) | refine And.intro (fun (_ : true = true) => ?_) (fun (h : true = false) => Bool.noConfusion h) | refine And.intro (fun (h : false = true) => Bool.noConfusion h) (fun (_ : false = false) => ?_)
    refine And.intro (And.intro (show InR _ from ⟨by decide, by decide⟩) (show InR _ from ⟨by decide, by decide⟩)) ?_
    rw [e1, e0]
    repeat first | refine And.intro rfl ?_ | refine And.intro True.intro ?_ | refine Or.inl (And.intro rfl ?_) | refine Or.inr (And.intro rfl ?_) | refine And.intro (fun (_ : true = true) => ?_) (fun (h : true = false) => Bool.noConfusion h) | refine And.intro (fun (h : false = true) => Bool.noConfusion h) (fun (_ : false = false) => ?_)
    refine And.intro (And.intro (show InR _ from ⟨by decide, by decide⟩) (show InR _ from ⟨by decide, by decide⟩)) ?_
    rw [e0, e1]
    repeat first | refine And.intro rfl ?_ | refine And.intro True.intro ?_ | refine Or.inl (And.intro rfl ?_) | refine Or.inr (And.intro rfl ?_) | refine And.intro (fun (_ : true = true) => ?_) (fun (h : true = false) => Bool.noConfusion h) | refine And.intro (fun (h : false = true) => Bool.noConfusion h) (fun (_ : false = false) => ?_)
    refine And.intro (And.intro (show InR _ from ⟨by decide, by decide⟩) (show InR _ from ⟨by decide, by decide⟩)) ?_
    rw [e1]
    repeat first | refine And.intro rfl ?_ | refine And.intro True.intro ?_ | refine Or.inl (And.intro rfl ?_) | refine Or.inr (And.intro rfl ?_) | refine And.intro (fun (_ : true = true) => ?_) (fun (h : true = false) => Bool.noConfusion h) | refine And.intro (fun (h : false = true) => Bool.noConfusion h) (fun (_ : false = false) => ?_)
    refine And.intro ?pre ?_
    case pre =>
      repeat' refine And.intro ?_ ?_
      all_goals first | exact lenN_of (by decide) | exact lenD_of (by decide) | assumption | exact trivial | exact Nat.zero_le _ | omega
    rw [q0, q1]
    have n1 : decide (meetD (c0, c0) (c1, c0) (c0, c1) (c1, c1) = 0) = true := by rw [v0, v1]; decide +kernel
    rw [n1]
    generalize meetQ (c0, c0) (c1, c0) (c0, c1) (c1, c1) = x2
    repeat first | refine And.intro rfl ?_ | refine And.intro True.intro ?_ | refine Or.inl (And.intro rfl ?_) | refine Or.inr (And.intro rfl ?_) | refine And.intro (fun (_ : true = true) => ?_) (fun (h : true = false) => Bool.noConfusion h) | refine And.intro (fun (h : false = true) => Bool.noConfusion h) (fun (_ : false = false) => ?_)
    refine And.intro (And.intro (show InR _ from ⟨by decide, by decide⟩) (show InR _ from ⟨by decide, by decide⟩)) ?_
    rw [e0, e2]
    repeat first | refine And.intro rfl ?_ | refine And.intro True.intro ?_ | refine Or.inl (And.intro rfl ?_) | refine Or.inr (And.intro rfl ?_) | refine And.intro (fun (_ : true = true) => ?_) (fun (h : true = false) => Bool.noConfusion h) | refine And.intro (fun (h : false = true) => Bool.noConfusion h) (fun (_ : false = false) => ?_)
    refine And.intro ?pre ?_
    case pre =>
      repeat' refine And.intro ?_ ?_
      all_goals first | exact lenN_of (by decide) | exact lenD_of (by decide) | assumption | exact trivial | exact Nat.zero_le _ | omega
    rw [q0, q2]
    have o1 : decide (footD (c0, c0) (c2, c2) = 0) = false := by rw [v0, v2]; decide +kernel
    have o2 : mirQ (c0, c2) (c0, c0) (c2, c2) = (2, 0) := by rw [v0, v2]; decide +kernel
    rw [o1]
    generalize mirQ (c0, c2) (c0, c0) (c2, c2) = m at o2
    repeat first | refine And.intro rfl ?_ | refine And.intro True.intro ?_ | refine Or.inl (And.intro rfl ?_) | refine Or.inr (And.intro rfl ?_) | refine And.intro (fun (_ : true = true) => ?_) (fun (h : true = false) => Bool.noConfusion h) | refine And.intro (fun (h : false = true) => Bool.noConfusion h) (fun (_ : false = false) => ?_)
    refine And.intro (And.intro (show InR _ from ⟨by decide, by decide⟩) (And.intro (show InR _ from ⟨by decide, by decide⟩) (by decide))) ?_
    generalize eha : mkRat (sg _ _) _ = ha
    have vha : ha = (mkRat 1 2) := by rw [← eha]; decide +kernel
    have iha : Szc ha 1 := by rw [vha]; exact szS (by decide +kernel)
    have qha := rq_cq ha
    repeat first | refine And.intro rfl ?_ | refine And.intro True.intro ?_ | refine Or.inl (And.intro rfl ?_) | refine Or.inr (And.intro rfl ?_) | refine And.intro (fun (_ : true = true) => ?_) (fun (h : true = false) => Bool.noConfusion h) | refine And.intro (fun (h : false = true) => Bool.noConfusion h) (fun (_ : false = false) => ?_)
    refine And.intro (And.intro (show InR _ from ⟨by decide, by decide⟩) (And.intro (show InR _ from ⟨by decide, by decide⟩) (by decide))) ?_
    generalize ehb : mkRat (sg _ _) _ = hb
    have vhb : hb = (mkRat (-1) 2) := by rw [← ehb]; decide +kernel
    have ihb : Szc hb 1 := by rw [vhb]; exact szS (by decide +kernel)
    have qhb := rq_cq hb
    repeat first | refine And.intro rfl ?_ | refine And.intro True.intro ?_ | refine Or.inl (And.intro rfl ?_) | refine Or.inr (And.intro rfl ?_) | refine And.intro (fun (_ : true = true) => ?_) (fun (h : true = false) => Bool.noConfusion h) | refine And.intro (fun (h : false = true) => Bool.noConfusion h) (fun (_ : false = false) => ?_)
    refine And.intro ?pre ?_
    case pre =>
      repeat' refine And.intro ?_ ?_
      all_goals first | exact lenN_of (by decide) | exact lenD_of (by decide) | assumption | exact trivial | exact Nat.zero_le _ | omega
    rw [qha, qhb]
    have g1 : grdB (ha, hb) = true := by rw [vha, vhb]; decide +kernel
    have g2 : rnd ha = 1 := by rw [vha]; decide +kernel
    have g3 : rnd hb = -1 := by rw [vhb]; decide +kernel
    rw [g1, g2, g3]
    repeat first | refine And.intro rfl ?_ | refine And.intro True.intro ?_ | refine Or.inl (And.intro rfl ?_) | refine Or.inr (And.intro rfl ?_) | refine And.intro (fun (_ : true = true) => ?_) (fun (h : true = false) => Bool.noConfusion h) | refine And.intro (fun (h : false = true) => Bool.noConfusion h) (fun (_ : false = false) => ?_)
    refine And.intro (And.intro (show InR _ from ⟨by decide, by decide⟩) (And.intro (show InR _ from ⟨by decide, by decide⟩) (by decide))) ?_
    generalize ehc : mkRat (sg _ _) _ = hc
    have vhc : hc = (mkRat 2097153 2) := by rw [← ehc]; decide +kernel
    have ihc : Szc hc 1 := by rw [vhc]; exact szS (by decide +kernel)
    have qhc := rq_cq hc
    repeat first | refine And.intro rfl ?_ | refine And.intro True.intro ?_ | refine Or.inl (And.intro rfl ?_) | refine Or.inr (And.intro rfl ?_) | refine And.intro (fun (_ : true = true) => ?_) (fun (h : true = false) => Bool.noConfusion h) | refine And.intro (fun (h : false = true) => Bool.noConfusion h) (fun (_ : false = false) => ?_)
    refine And.intro (And.intro (show InR _ from ⟨by decide, by decide⟩) (And.intro (show InR _ from ⟨by decide, by decide⟩) (by decide))) ?_
    generalize ehd : mkRat (sg _ _) _ = hd
    have vhd : hd = 0 := by rw [← ehd]; decide +kernel
    have ihd : Szc hd 1 := by rw [vhd]; exact szS (by decide +kernel)
    have qhd := rq_cq hd
    repeat first | refine And.intro rfl ?_ | refine And.intro True.intro ?_ | refine Or.inl (And.intro rfl ?_) | refine Or.inr (And.intro rfl ?_) | refine And.intro (fun (_ : true = true) => ?_) (fun (h : true = false) => Bool.noConfusion h) | refine And.intro (fun (h : false = true) => Bool.noConfusion h) (fun (_ : false = false) => ?_)
    refine And.intro ?pre ?_
    case pre =>
      repeat' refine And.intro ?_ ?_
      all_goals first | exact lenN_of (by decide) | exact lenD_of (by decide) | assumption | exact trivial | exact Nat.zero_le _ | omega
    rw [qhc, qhd]
    have g4 : grdB (hc, hd) = false := by rw [vhc, vhd]; decide +kernel
    rw [g4]
    repeat first | refine And.intro rfl ?_ | refine And.intro True.intro ?_ | refine Or.inl (And.intro rfl ?_) | refine Or.inr (And.intro rfl ?_) | refine And.intro (fun (_ : true = true) => ?_) (fun (h : true = false) => Bool.noConfusion h) | refine And.intro (fun (h : false = true) => Bool.noConfusion h) (fun (_ : false = false) => ?_)
    refine And.intro ?pre ?_
    case pre =>
      repeat' refine And.intro ?_ ?_
      all_goals first | exact lenN_of (by decide) | exact lenD_of (by decide) | assumption | exact trivial | exact Nat.zero_le _ | omega
    rw [q0, q2]
    have f1 : decide (footD (c0, c0) (c0, c0) = 0) = true := by rw [v0]; decide +kernel
    rw [f1]
    generalize footQ (c2, c2) (c0, c0) (c0, c0) = x3
    repeat first | refine And.intro rfl ?_ | refine And.intro True.intro ?_ | refine Or.inl (And.intro rfl ?_) | refine Or.inr (And.intro rfl ?_) | refine And.intro (fun (_ : true = true) => ?_) (fun (h : true = false) => Bool.noConfusion h) | refine And.intro (fun (h : false = true) => Bool.noConfusion h) (fun (_ : false = false) => ?_)
    have sx : Szc x.1 1 := by rw [m2]; exact szS (by decide +kernel)
    have sy : Szc x.2 1 := by rw [m2]; exact szS (by decide +kernel)
    have tx : Szc m.1 1 := by rw [o2]; exact szS (by decide +kernel)
    have ty : Szc m.2 1 := by rw [o2]; exact szS (by decide +kernel)
    refine And.intro (And.intro (show InR _ from ⟨by decide, by decide⟩) (show InR _ from ⟨by decide, by decide⟩)) ?_
    rw [e1]
    repeat first | refine And.intro rfl ?_ | refine And.intro True.intro ?_ | refine Or.inl (And.intro rfl ?_) | refine Or.inr (And.intro rfl ?_) | refine And.intro (fun (_ : true = true) => ?_) (fun (h : true = false) => Bool.noConfusion h) | refine And.intro (fun (h : false = true) => Bool.noConfusion h) (fun (_ : false = false) => ?_)
    refine And.intro (And.intro (sx.sz.lenN (by decide)) (And.intro (sx.sz.lenD (by decide)) (And.intro (sy.sz.lenN (by decide)) (sy.sz.lenD (by decide))))) ?_
    repeat first | refine And.intro rfl ?_ | refine And.intro True.intro ?_ | refine Or.inl (And.intro rfl ?_) | refine Or.inr (And.intro rfl ?_) | refine And.intro (fun (_ : true = true) => ?_) (fun (h : true = false) => Bool.noConfusion h) | refine And.intro (fun (h : false = true) => Bool.noConfusion h) (fun (_ : false = false) => ?_)
    refine Or.inl (And.intro (show samePR (prQ x) (prQ (c1, c1)) = true from samePR_iff.2 (by rw [m2, v1])) ?_)
    repeat first | refine And.intro rfl ?_ | refine And.intro True.intro ?_ | refine Or.inl (And.intro rfl ?_) | refine Or.inr (And.intro rfl ?_) | refine And.intro (fun (_ : true = true) => ?_) (fun (h : true = false) => Bool.noConfusion h) | refine And.intro (fun (h : false = true) => Bool.noConfusion h) (fun (_ : false = false) => ?_)
    refine And.intro (And.intro (show InR _ from ⟨by decide, by decide⟩) (show InR _ from ⟨by decide, by decide⟩)) ?_
    rw [e2, e0]
    repeat first | refine And.intro rfl ?_ | refine And.intro True.intro ?_ | refine Or.inl (And.intro rfl ?_) | refine Or.inr (And.intro rfl ?_) | refine And.intro (fun (_ : true = true) => ?_) (fun (h : true = false) => Bool.noConfusion h) | refine And.intro (fun (h : false = true) => Bool.noConfusion h) (fun (_ : false = false) => ?_)
    refine And.intro (And.intro (tx.sz.lenN (by decide)) (And.intro (tx.sz.lenD (by decide)) (And.intro (ty.sz.lenN (by decide)) (ty.sz.lenD (by decide))))) ?_
    repeat first | refine And.intro rfl ?_ | refine And.intro True.intro ?_ | refine Or.inl (And.intro rfl ?_) | refine Or.inr (And.intro rfl ?_) | refine And.intro (fun (_ : true = true) => ?_) (fun (h : true = false) => Bool.noConfusion h) | refine And.intro (fun (h : false = true) => Bool.noConfusion h) (fun (_ : false = false) => ?_)
    refine Or.inl (And.intro (show samePR (prQ m) (prQ (c2, c0)) = true from samePR_iff.2 (by rw [o2, v2, v0])) ?_)
    repeat first | refine And.intro rfl ?_ | refine And.intro True.intro ?_ | refine Or.inl (And.intro rfl ?_) | refine Or.inr (And.intro rfl ?_) | refine And.intro (fun (_ : true = true) => ?_) (fun (h : true = false) => Bool.noConfusion h) | refine And.intro (fun (h : false = true) => Bool.noConfusion h) (fun (_ : false = false) => ?_)
    refine And.intro (And.intro (show InR _ from ⟨by decide, by decide⟩) (show InR _ from ⟨by decide, by decide⟩)) ?_
    rw [e4, e2]
    repeat first | refine And.intro rfl ?_ | refine And.intro True.intro ?_ | refine Or.inl (And.intro rfl ?_) | refine Or.inr (And.intro rfl ?_) | refine And.intro (fun (_ : true = true) => ?_) (fun (h : true = false) => Bool.noConfusion h) | refine And.intro (fun (h : false = true) => Bool.noConfusion h) (fun (_ : false = false) => ?_)
    refine And.intro (And.intro (show InR _ from ⟨by decide, by decide⟩) (And.intro (show InR _ from ⟨by decide, by decide⟩) (by decide))) ?_
    generalize ehq : mkRat (sg _ _) _ = hq
    have vhq : hq = (mkRat 1 4) := by rw [← ehq]; decide +kernel
    have ihq : Szc hq 1 := by rw [vhq]; exact szS (by decide +kernel)
    have qhq := rq_cq hq
    repeat first | refine And.intro rfl ?_ | refine And.intro True.intro ?_ | refine Or.inl (And.intro rfl ?_) | refine Or.inr (And.intro rfl ?_) | refine And.intro (fun (_ : true = true) => ?_) (fun (h : true = false) => Bool.noConfusion h) | refine And.intro (fun (h : false = true) => Bool.noConfusion h) (fun (_ : false = false) => ?_)
    refine And.intro ?pre ?_
    case pre =>
      repeat' refine And.intro ?_ ?_
      all_goals first | exact lenN_of (by decide) | exact lenD_of (by decide) | assumption | exact trivial | exact Nat.zero_le _ | omega
    rw [q0, q4, q2, qhq]
    generalize ew1 : c0 + (c4 - c0) * hq = w1
    generalize ew2 : c0 + (c2 - c0) * hq = w2
    have vw1 : w1 = 1 := by rw [← ew1, v0, v4, vhq]; decide +kernel
    have vw2 : w2 = mkRat 1 2 := by rw [← ew2, v0, v2, vhq]; decide +kernel
    have iw1 : Szc w1 1 := by rw [vw1]; exact szS (by decide +kernel)
    have iw2 : Szc w2 1 := by rw [vw2]; exact szS (by decide +kernel)
    repeat first | refine And.intro rfl ?_ | refine And.intro True.intro ?_ | refine Or.inl (And.intro rfl ?_) | refine Or.inr (And.intro rfl ?_) | refine And.intro (fun (_ : true = true) => ?_) (fun (h : true = false) => Bool.noConfusion h) | refine And.intro (fun (h : false = true) => Bool.noConfusion h) (fun (_ : false = false) => ?_)
    refine And.intro (And.intro (show InR _ from ⟨by decide, by decide⟩) (And.intro (show InR _ from ⟨by decide, by decide⟩) (by decide))) ?_
    generalize ehu : mkRat (sg _ _) _ = hu
    have vhu : hu = 1 := by rw [← ehu]; decide +kernel
    have ihu : Szc hu 1 := by rw [vhu]; exact szS (by decide +kernel)
    have qhu := rq_cq hu
    repeat first | refine And.intro rfl ?_ | refine And.intro True.intro ?_ | refine Or.inl (And.intro rfl ?_) | refine Or.inr (And.intro rfl ?_) | refine And.intro (fun (_ : true = true) => ?_) (fun (h : true = false) => Bool.noConfusion h) | refine And.intro (fun (h : false = true) => Bool.noConfusion h) (fun (_ : false = false) => ?_)
    refine And.intro (And.intro (show InR _ from ⟨by decide, by decide⟩) (And.intro (show InR _ from ⟨by decide, by decide⟩) (by decide))) ?_
    generalize ehv : mkRat (sg _ _) _ = hv
    have vhv : hv = (mkRat 1 2) := by rw [← ehv]; decide +kernel
    have ihv : Szc hv 1 := by rw [vhv]; exact szS (by decide +kernel)
    have qhv := rq_cq hv
    repeat first | refine And.intro rfl ?_ | refine And.intro True.intro ?_ | refine Or.inl (And.intro rfl ?_) | refine Or.inr (And.intro rfl ?_) | refine And.intro (fun (_ : true = true) => ?_) (fun (h : true = false) => Bool.noConfusion h) | refine And.intro (fun (h : false = true) => Bool.noConfusion h) (fun (_ : false = false) => ?_)
    refine And.intro ?pre ?_
    case pre =>
      repeat' refine And.intro ?_ ?_
      all_goals first | exact lenN_of (by decide) | exact lenD_of (by decide) | assumption | exact trivial | exact Nat.zero_le _ | omega
    repeat first | refine And.intro rfl ?_ | refine And.intro True.intro ?_ | refine Or.inl (And.intro rfl ?_) | refine Or.inr (And.intro rfl ?_) | refine And.intro (fun (_ : true = true) => ?_) (fun (h : true = false) => Bool.noConfusion h) | refine And.intro (fun (h : false = true) => Bool.noConfusion h) (fun (_ : false = false) => ?_)
    refine Or.inl (And.intro (show samePR (prQ (w1, w2)) (prQ (hu, hv)) = true from samePR_iff.2 (by rw [vw1, vw2, vhu, vhv])) ?_)
    repeat first | refine And.intro rfl ?_ | refine And.intro True.intro ?_ | refine Or.inl (And.intro rfl ?_) | refine Or.inr (And.intro rfl ?_) | refine And.intro (fun (_ : true = true) => ?_) (fun (h : true = false) => Bool.noConfusion h) | refine And.intro (fun (h : false = true) => Bool.noConfusion h) (fun (_ : false = false) => ?_)
    refine And.intro (And.intro (show InR _ from ⟨by decide, by decide⟩) (show InR _ from ⟨by decide, by decide⟩)) ?_
    rw [e4, e0]
    repeat first | refine And.intro rfl ?_ | refine And.intro True.intro ?_ | refine Or.inl (And.intro rfl ?_) | refine Or.inr (And.intro rfl ?_) | refine And.intro (fun (_ : true = true) => ?_) (fun (h : true = false) => Bool.noConfusion h) | refine And.intro (fun (h : false = true) => Bool.noConfusion h) (fun (_ : false = false) => ?_)
    refine And.intro (And.intro (show InR _ from ⟨by decide, by decide⟩) (show InR _ from ⟨by decide, by decide⟩)) ?_
    rw [e1]
    repeat first | refine And.intro rfl ?_ | refine And.intro True.intro ?_ | refine Or.inl (And.intro rfl ?_) | refine Or.inr (And.intro rfl ?_) | refine And.intro (fun (_ : true = true) => ?_) (fun (h : true = false) => Bool.noConfusion h) | refine And.intro (fun (h : false = true) => Bool.noConfusion h) (fun (_ : false = false) => ?_)
    refine And.intro ?pre ?_
    case pre =>
      repeat' refine And.intro ?_ ?_
      all_goals first | exact lenN_of (by decide) | exact lenD_of (by decide) | assumption | exact trivial | exact Nat.zero_le _ | omega
    rw [q0, q4, q1]
    have cs : (cmpQ ((c4 - c0) * (c1 - c0) - (c0 - c0) * (c1 - c0)) 0 == 1) = true := by rw [v0, v1, v4]; decide +kernel
    repeat first | refine And.intro rfl ?_ | refine And.intro True.intro ?_ | refine Or.inl (And.intro rfl ?_) | refine Or.inr (And.intro rfl ?_) | refine And.intro (fun (_ : true = true) => ?_) (fun (h : true = false) => Bool.noConfusion h) | refine And.intro (fun (h : false = true) => Bool.noConfusion h) (fun (_ : false = false) => ?_)
    refine Or.inl (And.intro cs ?_)
    repeat first | refine And.intro rfl ?_ | refine And.intro True.intro ?_ | refine Or.inl (And.intro rfl ?_) | refine Or.inr (And.intro rfl ?_) | refine And.intro (fun (_ : true = true) => ?_) (fun (h : true = false) => Bool.noConfusion h) | refine And.intro (fun (h : false = true) => Bool.noConfusion h) (fun (_ : false = false) => ?_)
    refine And.intro (And.intro (show InR _ from ⟨by decide, by decide⟩) (show InR _ from ⟨by decide, by decide⟩)) ?_
    rw [e1, e2]
    repeat first | refine And.intro rfl ?_ | refine And.intro True.intro ?_ | refine Or.inl (And.intro rfl ?_) | refine Or.inr (And.intro rfl ?_) | refine And.intro (fun (_ : true = true) => ?_) (fun (h : true = false) => Bool.noConfusion h) | refine And.intro (fun (h : false = true) => Bool.noConfusion h) (fun (_ : false = false) => ?_)
    refine And.intro (And.intro (show InR _ from ⟨by decide, by decide⟩) (show InR _ from ⟨by decide, by decide⟩)) ?_
    rw [e3, e4]
    repeat first | refine And.intro rfl ?_ | refine And.intro True.intro ?_ | refine Or.inl (And.intro rfl ?_) | refine Or.inr (And.intro rfl ?_) | refine And.intro (fun (_ : true = true) => ?_) (fun (h : true = false) => Bool.noConfusion h) | refine And.intro (fun (h : false = true) => Bool.noConfusion h) (fun (_ : false = false) => ?_)
    refine And.intro ?pre ?_
    case pre =>
      repeat' refine And.intro ?_ ?_
      all_goals first | exact lenN_of (by decide) | exact lenD_of (by decide) | assumption | exact trivial | exact Nat.zero_le _ | omega
    rw [q1, q2, q3, q4]
    generalize ek : c1 * c4 - c2 * c3 = k
    have vk : k = -2 := by rw [← ek, v1, v2, v3, v4]; decide +kernel
    have ik : Szc k 1 := by rw [vk]; exact szS (by decide +kernel)
    repeat first | refine And.intro rfl ?_ | refine And.intro True.intro ?_ | refine Or.inl (And.intro rfl ?_) | refine Or.inr (And.intro rfl ?_) | refine And.intro (fun (_ : true = true) => ?_) (fun (h : true = false) => Bool.noConfusion h) | refine And.intro (fun (h : false = true) => Bool.noConfusion h) (fun (_ : false = false) => ?_)
    refine And.intro (And.intro (show InR _ from ⟨by decide, by decide⟩) (And.intro (show InR _ from ⟨by decide, by decide⟩) (by decide))) ?_
    generalize ehw : mkRat (sg _ _) _ = hw
    have vhw : hw = (-2) := by rw [← ehw]; decide +kernel
    have ihw : Szc hw 1 := by rw [vhw]; exact szS (by decide +kernel)
    have qhw := rq_cq hw
    repeat first | refine And.intro rfl ?_ | refine And.intro True.intro ?_ | refine Or.inl (And.intro rfl ?_) | refine Or.inr (And.intro rfl ?_) | refine And.intro (fun (_ : true = true) => ?_) (fun (h : true = false) => Bool.noConfusion h) | refine And.intro (fun (h : false = true) => Bool.noConfusion h) (fun (_ : false = false) => ?_)
    refine And.intro ?pre ?_
    case pre =>
      repeat' refine And.intro ?_ ?_
      all_goals first | exact lenN_of (by decide) | exact lenD_of (by decide) | assumption | exact trivial | exact Nat.zero_le _ | omega
    repeat first | refine And.intro rfl ?_ | refine And.intro True.intro ?_ | refine Or.inl (And.intro rfl ?_) | refine Or.inr (And.intro rfl ?_) | refine And.intro (fun (_ : true = true) => ?_) (fun (h : true = false) => Bool.noConfusion h) | refine And.intro (fun (h : false = true) => Bool.noConfusion h) (fun (_ : false = false) => ?_)
    refine resB ?_
    exact decide_eq_true (by rw [vk, vhw]; exact ⟨rfl, rfl, rfl⟩)
  · cases h

end Go.Gm
