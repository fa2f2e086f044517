/-
  The turns of points: the reference's Point, and the statement TurnPoints. Plain theorems; no condition.
-/
import Derived.Test.YtihmifpdnipdmaaRefM
import Derived.Test.YtihmifpdnipdmaaLawA
import Derived.Test.YtihmifpdnipdmaaSame
set_option linter.all false
namespace Go.Gm
open Go.Proofs

def TRP0 : Table := [(30, sTurnNorm), (103, sRatNorm), (104, sRatNeg)]
theorem TRP0_ok : TabOk TRP0 := TabOk.cons ok_refTurnNorm (TabOk.cons ok_kNorm (TabOk.cons ok_kNeg TabOk.nil))


set_option maxHeartbeats 1000000 in
theorem ok_refPoint : Ok1 40 sTurnPoint := by
  refine ok_of TRP0_ok Try.func40 rfl (by kernel_rfl) ?_
  intro xs pre res h hp hlim
  unfold sTurnPoint at h
  split at h
  · rename_i f q s l t s2 l2 t2
    cases h
    obtain ⟨⟨h1, h2, h3⟩, h4, h5, h6⟩ := hp
    have L1 : Lim l := hlim.2.1.2.1
    have L2 : Lim t := hlim.2.1.2.2.1
    have L3 : Lim l2 := hlim.2.1.2.2.2.2.1
    have L4 : Lim t2 := hlim.2.1.2.2.2.2.2.1
    have hz : SzP 70001 (rq s l t, rq s2 l2 t2) := ⟨⟨Sz.rq L1 L2 h1 h2, rq_fit h3⟩, Sz.rq L3 L4 h4 h5, rq_fit h6⟩
    have hz' : SzP 70001 (-(rq s l t), rq s2 l2 t2) := ⟨⟨hz.1.1.neg, by show DivFit (-(rq s l t)).den; rw [Rat.neg_den]; exact hz.1.2⟩, hz.2⟩
    refine And.intro (Nat.le_of_ble_eq_true rfl) ?_
    cases f
    · repeat first | refine And.intro rfl ?_ | refine Or.inl (And.intro rfl ?_) | refine Or.inr (And.intro rfl ?_) | refine And.intro (fun (_ : true = true) => ?_) (fun (h : true = false) => Bool.noConfusion h) | refine And.intro (fun (h : false = true) => Bool.noConfusion h) (fun (_ : false = false) => ?_)
      refine And.intro (show l.length ≤ 80000 ∧ t.length ≤ 80000 ∧ DivFit (nv t) from ⟨by omega, by omega, h3⟩) ?_
      repeat first | refine And.intro rfl ?_ | refine Or.inl (And.intro rfl ?_) | refine Or.inr (And.intro rfl ?_) | refine And.intro (fun (_ : true = true) => ?_) (fun (h : true = false) => Bool.noConfusion h) | refine And.intro (fun (h : false = true) => Bool.noConfusion h) (fun (_ : false = false) => ?_)
      refine And.intro (show l2.length ≤ 80000 ∧ t2.length ≤ 80000 ∧ DivFit (nv t2) from ⟨by omega, by omega, h6⟩) ?_
      repeat first | refine And.intro rfl ?_ | refine Or.inl (And.intro rfl ?_) | refine Or.inr (And.intro rfl ?_) | refine And.intro (fun (_ : true = true) => ?_) (fun (h : true = false) => Bool.noConfusion h) | refine And.intro (fun (h : false = true) => Bool.noConfusion h) (fun (_ : false = false) => ?_)
      refine And.intro trivial ?_
      repeat first | refine And.intro rfl ?_ | refine Or.inl (And.intro rfl ?_) | refine Or.inr (And.intro rfl ?_) | refine And.intro (fun (_ : true = true) => ?_) (fun (h : true = false) => Bool.noConfusion h) | refine And.intro (fun (h : false = true) => Bool.noConfusion h) (fun (_ : false = false) => ?_)
      refine Exists.intro {k : Nat // k ≤ (q % 4).toNat} (Exists.intro (fun k => ⟨[(2, .ptr 0 0), (3, .ptr 1 0), (4, .ptr 2 0), (5, .ptr 3 0), (6, .ptr 4 0), (7, .val (.int .i64 (k.1 : Nat)))], ⟨[(23, [.val (.bool false), .val (.int .i64 q)]), (38, [.val (.bool s), .nat l, .nat t, .val (.bool s2), .nat l2, .nat t2]), (38, zQ ++ zQ), (38, cq (rotQ k.1 (rq s l t, rq s2 l2 t2)).1 ++ cq (rotQ k.1 (rq s l t, rq s2 l2 t2)).2), (23, [.val (.bool false), .val (.int .i64 (q % 4))])], []⟩⟩) (Exists.intro (fun k => (q % 4).toNat - k.1) (Exists.intro ⟨0, Nat.zero_le _⟩ (And.intro ?_ ?_))))
      · repeat first | exact trivial | refine And.intro rfl ?_ | refine And.intro trivial ?_ | refine And.intro (And.intro rfl trivial) ?_ | refine And.intro (And.intro rfl (And.intro rfl trivial)) ?_
      · rintro ⟨k, hk⟩
        have hs := SzP.rot hz k
        repeat first | refine And.intro rfl ?_ | refine Or.inl (And.intro rfl ?_) | refine Or.inr (And.intro rfl ?_) | refine And.intro (fun (_ : true = true) => ?_) (fun (h : true = false) => Bool.noConfusion h) | refine And.intro (fun (h : false = true) => Bool.noConfusion h) (fun (_ : false = false) => ?_)
        refine And.intro (fun hc => ?_) (fun hc => ?_)
        · have hk' : (k : Int) < q % 4 := of_decide_eq_true hc
          repeat first | refine And.intro rfl ?_ | refine Or.inl (And.intro rfl ?_) | refine Or.inr (And.intro rfl ?_) | refine And.intro (fun (_ : true = true) => ?_) (fun (h : true = false) => Bool.noConfusion h) | refine And.intro (fun (h : false = true) => Bool.noConfusion h) (fun (_ : false = false) => ?_)
          refine And.intro (neg_pre hs.2.1 (by decide) hs.2.2) ?_
          rw [rq_cq]
          repeat first | refine And.intro rfl ?_ | refine Or.inl (And.intro rfl ?_) | refine Or.inr (And.intro rfl ?_) | refine And.intro (fun (_ : true = true) => ?_) (fun (h : true = false) => Bool.noConfusion h) | refine And.intro (fun (h : false = true) => Bool.noConfusion h) (fun (_ : false = false) => ?_)
          refine Exists.intro ⟨k + 1, by omega⟩ (And.intro (show (q % 4).toNat - (k + 1) < (q % 4).toNat - k by omega) ?_)
          repeat first | exact trivial | refine And.intro rfl ?_ | refine And.intro trivial ?_ | refine And.intro (And.intro rfl trivial) ?_ | refine And.intro (And.intro rfl (And.intro rfl trivial)) ?_
          exact And.intro (avI (show IntKind.i64.wrap ((k : Int) + 1) = ((k + 1 : Nat) : Int) by rw [wI (by omega) (by omega)]; omega)) trivial
        · have hk' : ¬ (k : Int) < q % 4 := of_decide_eq_false hc
          have hk2 : k = (q % 4).toNat := by omega
          subst hk2
          repeat first | refine And.intro rfl ?_ | refine Or.inl (And.intro rfl ?_) | refine Or.inr (And.intro rfl ?_) | refine And.intro (fun (_ : true = true) => ?_) (fun (h : true = false) => Bool.noConfusion h) | refine And.intro (fun (h : false = true) => Bool.noConfusion h) (fun (_ : false = false) => ?_)
          rfl
    · repeat first | refine And.intro rfl ?_ | refine Or.inl (And.intro rfl ?_) | refine Or.inr (And.intro rfl ?_) | refine And.intro (fun (_ : true = true) => ?_) (fun (h : true = false) => Bool.noConfusion h) | refine And.intro (fun (h : false = true) => Bool.noConfusion h) (fun (_ : false = false) => ?_)
      refine And.intro (show l.length ≤ 80000 ∧ t.length ≤ 80000 ∧ DivFit (nv t) from ⟨by omega, by omega, h3⟩) ?_
      repeat first | refine And.intro rfl ?_ | refine Or.inl (And.intro rfl ?_) | refine Or.inr (And.intro rfl ?_) | refine And.intro (fun (_ : true = true) => ?_) (fun (h : true = false) => Bool.noConfusion h) | refine And.intro (fun (h : false = true) => Bool.noConfusion h) (fun (_ : false = false) => ?_)
      refine And.intro (show l2.length ≤ 80000 ∧ t2.length ≤ 80000 ∧ DivFit (nv t2) from ⟨by omega, by omega, h6⟩) ?_
      repeat first | refine And.intro rfl ?_ | refine Or.inl (And.intro rfl ?_) | refine Or.inr (And.intro rfl ?_) | refine And.intro (fun (_ : true = true) => ?_) (fun (h : true = false) => Bool.noConfusion h) | refine And.intro (fun (h : false = true) => Bool.noConfusion h) (fun (_ : false = false) => ?_)
      refine And.intro (neg_pre hz.1.1 (by decide) hz.1.2) ?_
      rw [rq_cq]
      repeat first | refine And.intro rfl ?_ | refine Or.inl (And.intro rfl ?_) | refine Or.inr (And.intro rfl ?_) | refine And.intro (fun (_ : true = true) => ?_) (fun (h : true = false) => Bool.noConfusion h) | refine And.intro (fun (h : false = true) => Bool.noConfusion h) (fun (_ : false = false) => ?_)
      refine And.intro trivial ?_
      repeat first | refine And.intro rfl ?_ | refine Or.inl (And.intro rfl ?_) | refine Or.inr (And.intro rfl ?_) | refine And.intro (fun (_ : true = true) => ?_) (fun (h : true = false) => Bool.noConfusion h) | refine And.intro (fun (h : false = true) => Bool.noConfusion h) (fun (_ : false = false) => ?_)
      refine Exists.intro {k : Nat // k ≤ (q % 4).toNat} (Exists.intro (fun k => ⟨[(2, .ptr 0 0), (3, .ptr 1 0), (4, .ptr 2 0), (5, .ptr 3 0), (6, .ptr 4 0), (7, .val (.int .i64 (k.1 : Nat)))], ⟨[(23, [.val (.bool true), .val (.int .i64 q)]), (38, [.val (.bool s), .nat l, .nat t, .val (.bool s2), .nat l2, .nat t2]), (38, zQ ++ zQ), (38, cq (rotQ k.1 (-(rq s l t), rq s2 l2 t2)).1 ++ cq (rotQ k.1 (-(rq s l t), rq s2 l2 t2)).2), (23, [.val (.bool true), .val (.int .i64 (q % 4))])], []⟩⟩) (Exists.intro (fun k => (q % 4).toNat - k.1) (Exists.intro ⟨0, Nat.zero_le _⟩ (And.intro ?_ ?_))))
      · repeat first | exact trivial | refine And.intro rfl ?_ | refine And.intro trivial ?_ | refine And.intro (And.intro rfl trivial) ?_ | refine And.intro (And.intro rfl (And.intro rfl trivial)) ?_
      · rintro ⟨k, hk⟩
        have hs := SzP.rot hz' k
        repeat first | refine And.intro rfl ?_ | refine Or.inl (And.intro rfl ?_) | refine Or.inr (And.intro rfl ?_) | refine And.intro (fun (_ : true = true) => ?_) (fun (h : true = false) => Bool.noConfusion h) | refine And.intro (fun (h : false = true) => Bool.noConfusion h) (fun (_ : false = false) => ?_)
        refine And.intro (fun hc => ?_) (fun hc => ?_)
        · have hk' : (k : Int) < q % 4 := of_decide_eq_true hc
          repeat first | refine And.intro rfl ?_ | refine Or.inl (And.intro rfl ?_) | refine Or.inr (And.intro rfl ?_) | refine And.intro (fun (_ : true = true) => ?_) (fun (h : true = false) => Bool.noConfusion h) | refine And.intro (fun (h : false = true) => Bool.noConfusion h) (fun (_ : false = false) => ?_)
          refine And.intro (neg_pre hs.2.1 (by decide) hs.2.2) ?_
          rw [rq_cq]
          repeat first | refine And.intro rfl ?_ | refine Or.inl (And.intro rfl ?_) | refine Or.inr (And.intro rfl ?_) | refine And.intro (fun (_ : true = true) => ?_) (fun (h : true = false) => Bool.noConfusion h) | refine And.intro (fun (h : false = true) => Bool.noConfusion h) (fun (_ : false = false) => ?_)
          refine Exists.intro ⟨k + 1, by omega⟩ (And.intro (show (q % 4).toNat - (k + 1) < (q % 4).toNat - k by omega) ?_)
          repeat first | exact trivial | refine And.intro rfl ?_ | refine And.intro trivial ?_ | refine And.intro (And.intro rfl trivial) ?_ | refine And.intro (And.intro rfl (And.intro rfl trivial)) ?_
          exact And.intro (avI (show IntKind.i64.wrap ((k : Int) + 1) = ((k + 1 : Nat) : Int) by rw [wI (by omega) (by omega)]; omega)) trivial
        · have hk' : ¬ (k : Int) < q % 4 := of_decide_eq_false hc
          have hk2 : k = (q % 4).toNat := by omega
          subst hk2
          repeat first | refine And.intro rfl ?_ | refine Or.inl (And.intro rfl ?_) | refine Or.inr (And.intro rfl ?_) | refine And.intro (fun (_ : true = true) => ?_) (fun (h : true = false) => Bool.noConfusion h) | refine And.intro (fun (h : false = true) => Bool.noConfusion h) (fun (_ : false = false) => ?_)
          rfl
  · cases h

def TL9 : Table := [(40, sTurnPoint), (38, sLight3), (41, sSameRat)] ++ TL0
theorem TL9_ok : TabOk TL9 := TabOk.append (TabOk.cons ok_refPoint (TabOk.cons ok_Light3 (TabOk.cons ok_SameRat3 TabOk.nil))) TL0_ok

def sTurnPoints : List RV → Option (Prop × Res)
  | [.agg [.b (.val (.bool f)), .b (.val (.int .i64 q))], .agg [.b (.val (.bool s)), .b (.nat l), .b (.nat t), .b (.val (.bool s2)), .b (.nat l2), .b (.nat t2)]] => some (True, .r (.val (.bool true)))
  | _ => none


attribute [local irreducible] apQ rq mkRat

set_option maxHeartbeats 1000000 in
theorem ok_TurnPoints : Ok1 4 sTurnPoints := by
  refine ok_of TL9_ok Try.func4 rfl (by kernel_rfl) ?_
  intro xs pre res h hp hlim
  unfold sTurnPoints at h
  split at h
  · rename_i f q s l t s2 l2 t2
    cases h
    have L1 : Lim l := hlim.2.1.2.1
    have L2 : Lim t := hlim.2.1.2.2.1
    have L3 : Lim l2 := hlim.2.1.2.2.2.2.1
    have L4 : Lim t2 := hlim.2.1.2.2.2.2.2.1
    refine And.intro (Nat.le_of_ble_eq_true rfl) ?_
    repeat first | refine And.intro rfl ?_ | refine Or.inl (And.intro rfl ?_) | refine Or.inr (And.intro rfl ?_) | refine And.intro (fun (_ : true = true) => ?_) (fun (h : true = false) => Bool.noConfusion h) | refine And.intro (fun (h : false = true) => Bool.noConfusion h) (fun (_ : false = false) => ?_)
    repeat first | refine And.intro rfl ?_ | refine And.intro True.intro ?_ | refine Or.inl (And.intro rfl ?_) | refine Or.inr (And.intro rfl ?_) | refine And.intro (fun (_ : true = true) => ?_) (fun (h : true = false) => Bool.noConfusion h) | refine And.intro (fun (h : false = true) => Bool.noConfusion h) (fun (_ : false = false) => ?_)
    by_cases hT : (l.length : Int) ≤ 10 ∧ (t.length : Int) ≤ 10
    case neg =>
      refine Or.inr (And.intro (show (!decide ((l.length : Int) ≤ 10 ∧ (t.length : Int) ≤ 10)) = true by simp [hT]) ?_)
      repeat first | refine And.intro rfl ?_ | refine And.intro True.intro ?_ | refine Or.inl (And.intro rfl ?_) | refine Or.inr (And.intro rfl ?_) | refine And.intro (fun (_ : true = true) => ?_) (fun (h : true = false) => Bool.noConfusion h) | refine And.intro (fun (h : false = true) => Bool.noConfusion h) (fun (_ : false = false) => ?_)
      rfl
    refine Or.inl (And.intro (show (!decide ((l.length : Int) ≤ 10 ∧ (t.length : Int) ≤ 10)) = false by simp [hT]) ?_)
    repeat first | refine And.intro rfl ?_ | refine And.intro True.intro ?_ | refine Or.inl (And.intro rfl ?_) | refine Or.inr (And.intro rfl ?_) | refine And.intro (fun (_ : true = true) => ?_) (fun (h : true = false) => Bool.noConfusion h) | refine And.intro (fun (h : false = true) => Bool.noConfusion h) (fun (_ : false = false) => ?_)
    refine And.intro (fun hc => ?_) (fun hc => ?_)
    · repeat first | refine And.intro rfl ?_ | refine And.intro True.intro ?_ | refine Or.inl (And.intro rfl ?_) | refine Or.inr (And.intro rfl ?_) | refine And.intro (fun (_ : true = true) => ?_) (fun (h : true = false) => Bool.noConfusion h) | refine And.intro (fun (h : false = true) => Bool.noConfusion h) (fun (_ : false = false) => ?_)
      rfl
    have hU : (l2.length : Int) ≤ 10 ∧ (t2.length : Int) ≤ 10 := by
      have hc : (!decide ((l2.length : Int) ≤ 10 ∧ (t2.length : Int) ≤ 10)) = false := hc
      simpa using hc
    have hz : SzP 70001 (rq s l t, rq s2 l2 t2) := ⟨⟨Sz.rq L1 L2 (by omega) (by omega), trivial⟩, Sz.rq L3 L4 (by omega) (by omega), trivial⟩
    have hap : SzP 70001 (apQ f q (rq s l t, rq s2 l2 t2)) := by
      unfold apQ
      refine SzP.rot ?_ _
      cases f
      · exact hz
      · exact ⟨⟨hz.1.1.neg, trivial⟩, hz.2⟩
    have hpre : (l.length ≤ 70000 ∧ t.length ≤ 70000 ∧ DivFit (nv t)) ∧ (l2.length ≤ 70000 ∧ t2.length ≤ 70000 ∧ DivFit (nv t2)) := ⟨⟨by omega, by omega, trivial⟩, by omega, by omega, trivial⟩
    repeat first | refine And.intro rfl ?_ | refine And.intro True.intro ?_ | refine Or.inl (And.intro rfl ?_) | refine Or.inr (And.intro rfl ?_) | refine And.intro (fun (_ : true = true) => ?_) (fun (h : true = false) => Bool.noConfusion h) | refine And.intro (fun (h : false = true) => Bool.noConfusion h) (fun (_ : false = false) => ?_)
    refine And.intro hpre ?_
    generalize ea : apQ f q (rq s l t, rq s2 l2 t2) = a
    repeat first | refine And.intro rfl ?_ | refine And.intro True.intro ?_ | refine Or.inl (And.intro rfl ?_) | refine Or.inr (And.intro rfl ?_) | refine And.intro (fun (_ : true = true) => ?_) (fun (h : true = false) => Bool.noConfusion h) | refine And.intro (fun (h : false = true) => Bool.noConfusion h) (fun (_ : false = false) => ?_)
    refine And.intro hpre ?_
    rw [ea]
    rw [ea] at hap
    repeat first | refine And.intro rfl ?_ | refine And.intro True.intro ?_ | refine Or.inl (And.intro rfl ?_) | refine Or.inr (And.intro rfl ?_) | refine And.intro (fun (_ : true = true) => ?_) (fun (h : true = false) => Bool.noConfusion h) | refine And.intro (fun (h : false = true) => Bool.noConfusion h) (fun (_ : false = false) => ?_)
    refine And.intro (And.intro (hap.1.1.lenN (by decide)) (hap.1.1.lenD (by decide))) ?_
    repeat first | refine And.intro rfl ?_ | refine And.intro True.intro ?_ | refine Or.inl (And.intro rfl ?_) | refine Or.inr (And.intro rfl ?_) | refine And.intro (fun (_ : true = true) => ?_) (fun (h : true = false) => Bool.noConfusion h) | refine And.intro (fun (h : false = true) => Bool.noConfusion h) (fun (_ : false = false) => ?_)
    refine Or.inl (And.intro (show decide (_ ∧ _ ∧ _) = true from decide_eq_true ⟨rfl, rfl, rfl⟩) ?_)
    repeat first | refine And.intro rfl ?_ | refine And.intro True.intro ?_ | refine Or.inl (And.intro rfl ?_) | refine Or.inr (And.intro rfl ?_) | refine And.intro (fun (_ : true = true) => ?_) (fun (h : true = false) => Bool.noConfusion h) | refine And.intro (fun (h : false = true) => Bool.noConfusion h) (fun (_ : false = false) => ?_)
    refine And.intro (And.intro (hap.2.1.lenN (by decide)) (hap.2.1.lenD (by decide))) ?_
    repeat first | refine And.intro rfl ?_ | refine And.intro True.intro ?_ | refine Or.inl (And.intro rfl ?_) | refine Or.inr (And.intro rfl ?_) | refine And.intro (fun (_ : true = true) => ?_) (fun (h : true = false) => Bool.noConfusion h) | refine And.intro (fun (h : false = true) => Bool.noConfusion h) (fun (_ : false = false) => ?_)
    refine Or.inl (And.intro (show decide (_ ∧ _ ∧ _) = true from decide_eq_true ⟨rfl, rfl, rfl⟩) ?_)
    repeat first | refine And.intro rfl ?_ | refine And.intro True.intro ?_ | refine Or.inl (And.intro rfl ?_) | refine Or.inr (And.intro rfl ?_) | refine And.intro (fun (_ : true = true) => ?_) (fun (h : true = false) => Bool.noConfusion h) | refine And.intro (fun (h : false = true) => Bool.noConfusion h) (fun (_ : false = false) => ?_)
    rfl
  · cases h

end Go.Gm
