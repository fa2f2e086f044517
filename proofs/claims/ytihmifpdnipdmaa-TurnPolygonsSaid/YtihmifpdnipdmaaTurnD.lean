/-
  The turns of the program, part D: the reference's lists, points, and the chapter's examples. Plain theorems; no condition.
-/
import Derived.Test.YtihmifpdnipdmaaTurnC
import Derived.Test.YtihmifpdnipdmaaPt0
set_option linter.all false
namespace Go.Gm
open Go.Proofs

theorem polyF_getD (q : Int) (ps : List (Int × Int)) (k : Nat) (hk : k < ps.length) : (polyL false q ps).getD k (0, 0) = apZ false q (ps.getD k (0, 0)) := by
  simp [polyL, List.getD_eq_getElem?_getD, hk]
theorem polyT_getD (q : Int) (ps : List (Int × Int)) (k : Nat) (hk : k < ps.length) : (polyL true q ps).getD k (0, 0) = apZ true q (ps.getD (ps.length - k - 1) (0, 0)) := by
  have h1 : ps.length - 1 - k = ps.length - k - 1 := by omega
  have h2 : ps.length - k - 1 < ps.length := by omega
  simp [polyL, List.getD_eq_getElem?_getD, hk, h1, h2]


set_option maxHeartbeats 1000000 in
theorem ok_refPoly : Ok1 44 sPoly := by
  refine ok_of TT1_ok Try.func44 rfl (by kernel_rfl) ?_
  intro xs pre res h hp hlim
  unfold sPoly at h
  split at h
  · rename_i f q l
    cases h
    obtain ⟨h1, h3⟩ := hp
    obtain ⟨ps, hps⟩ : ∃ ps, ps = spots l := ⟨_, rfl⟩
    unfold IsSp at h1
    rw [← hps] at h1 ⊢
    have e1 : l.length = ps.length := by rw [h1, List.length_map]
    subst h1
    refine And.intro (Nat.le_of_ble_eq_true rfl) ?_
    cases f
    · repeat first | refine And.intro rfl ?_ | refine Or.inl (And.intro rfl ?_) | refine Or.inr (And.intro rfl ?_) | refine And.intro (fun (_ : true = true) => ?_) (fun (h : true = false) => Bool.noConfusion h) | refine And.intro (fun (h : false = true) => Bool.noConfusion h) (fun (_ : false = false) => ?_)
      refine Exists.intro {k : Nat // k ≤ ps.length} (Exists.intro (fun k => ⟨[(1, .one (.sl 2 (ps.map spB))), (2, .ptr 0 0), (5, .own 0), (6, .val (.int .i64 (k.1 : Nat)))], ⟨[(23, [.val (.bool false), .val (.int .i64 q)])], [.s 25 2 (((polyL false q ps).take k.1).map spB)]⟩⟩) (Exists.intro (fun k => ps.length - k.1) (Exists.intro ⟨0, by omega⟩ (And.intro ?_ ?_))))
      · repeat first | exact trivial | refine And.intro rfl ?_ | refine And.intro trivial ?_ | refine And.intro (And.intro rfl trivial) ?_ | refine And.intro (And.intro rfl (And.intro rfl trivial)) ?_
      · rintro ⟨k, hk⟩
        repeat first | refine And.intro rfl ?_ | refine Or.inl (And.intro rfl ?_) | refine Or.inr (And.intro rfl ?_) | refine And.intro (fun (_ : true = true) => ?_) (fun (h : true = false) => Bool.noConfusion h) | refine And.intro (fun (h : false = true) => Bool.noConfusion h) (fun (_ : false = false) => ?_)
        refine And.intro (fun hc => ?_) (fun hc => ?_)
        · have hk' : (k : Int) < (ps.map spB).length := of_decide_eq_true hc
          have hkl : k < ps.length := by rw [List.length_map] at hk'; omega
          skip
          have g1 : (ps.map spB).getD ((k : Nat) : Int).toNat [] = spB (ps.getD k (0, 0)) := getD_sp ps _ (by omega)
          repeat first | refine And.intro rfl ?_ | refine Or.inl (And.intro rfl ?_) | refine Or.inr (And.intro rfl ?_) | refine And.intro (fun (_ : true = true) => ?_) (fun (h : true = false) => Bool.noConfusion h) | refine And.intro (fun (h : false = true) => Bool.noConfusion h) (fun (_ : false = false) => ?_)
          skip
          refine And.intro (show 0 ≤ ((k : Nat) : Int) ∧ ((k : Nat) : Int) < (ps.map spB).length by rw [List.length_map]; omega) ?_
          rw [g1]
          repeat first | refine And.intro rfl ?_ | refine Or.inl (And.intro rfl ?_) | refine Or.inr (And.intro rfl ?_) | refine And.intro (fun (_ : true = true) => ?_) (fun (h : true = false) => Bool.noConfusion h) | refine And.intro (fun (h : false = true) => Bool.noConfusion h) (fun (_ : false = false) => ?_)
          refine And.intro trivial ?_
          repeat first | refine And.intro rfl ?_ | refine Or.inl (And.intro rfl ?_) | refine Or.inr (And.intro rfl ?_) | refine And.intro (fun (_ : true = true) => ?_) (fun (h : true = false) => Bool.noConfusion h) | refine And.intro (fun (h : false = true) => Bool.noConfusion h) (fun (_ : false = false) => ?_)
          refine And.intro (show (((polyL false q ps).take k).map spB).length + 1 ≤ 1000000 by simp; omega) ?_
          repeat first | refine And.intro rfl ?_ | refine Or.inl (And.intro rfl ?_) | refine Or.inr (And.intro rfl ?_) | refine And.intro (fun (_ : true = true) => ?_) (fun (h : true = false) => Bool.noConfusion h) | refine And.intro (fun (h : false = true) => Bool.noConfusion h) (fun (_ : false = false) => ?_)
          refine Exists.intro ⟨k + 1, by omega⟩ (And.intro (show ps.length - (k + 1) < ps.length - k by omega) ?_)
          repeat first | exact trivial | refine And.intro rfl ?_ | refine And.intro trivial ?_ | refine And.intro (And.intro rfl trivial) ?_ | refine And.intro (And.intro rfl (And.intro rfl trivial)) ?_
          refine And.intro (And.intro (rwS ?_) trivial) ?_
          · show ((polyL false q ps).take k).map spB ++ [spB (apZ false q (ps.getD k (0, 0)))] = ((polyL false q ps).take (k + 1)).map spB
            rw [take_succ_map spB (polyL false q ps) (0, 0) k (by rw [polyL_len]; exact hkl), polyF_getD q ps k hkl]
          · repeat first | exact trivial | refine And.intro rfl ?_ | refine And.intro trivial ?_ | refine And.intro (And.intro rfl trivial) ?_ | refine And.intro (And.intro rfl (And.intro rfl trivial)) ?_
            exact And.intro (avI (show IntKind.i64.wrap ((k : Int) + 1) = ((k + 1 : Nat) : Int) by rw [wI (by omega) (by omega)]; omega)) trivial
        · have hk' : ¬ (k : Int) < (ps.map spB).length := of_decide_eq_false hc
          rw [List.length_map] at hk'
          repeat first | refine And.intro rfl ?_ | refine Or.inl (And.intro rfl ?_) | refine Or.inr (And.intro rfl ?_) | refine And.intro (fun (_ : true = true) => ?_) (fun (h : true = false) => Bool.noConfusion h) | refine And.intro (fun (h : false = true) => Bool.noConfusion h) (fun (_ : false = false) => ?_)
          refine resSl ?_
          show ((polyL false q ps).take k).map spB = (polyL false q ps).map spB
          rw [List.take_of_length_le (by rw [polyL_len]; omega)]
    · repeat first | refine And.intro rfl ?_ | refine Or.inl (And.intro rfl ?_) | refine Or.inr (And.intro rfl ?_) | refine And.intro (fun (_ : true = true) => ?_) (fun (h : true = false) => Bool.noConfusion h) | refine And.intro (fun (h : false = true) => Bool.noConfusion h) (fun (_ : false = false) => ?_)
      refine Exists.intro {k : Nat // k ≤ ps.length} (Exists.intro (fun k => ⟨[(1, .one (.sl 2 (ps.map spB))), (2, .ptr 0 0), (5, .own 0), (6, .val (.int .i64 (k.1 : Nat)))], ⟨[(23, [.val (.bool true), .val (.int .i64 q)])], [.s 25 2 (((polyL true q ps).take k.1).map spB)]⟩⟩) (Exists.intro (fun k => ps.length - k.1) (Exists.intro ⟨0, by omega⟩ (And.intro ?_ ?_))))
      · repeat first | exact trivial | refine And.intro rfl ?_ | refine And.intro trivial ?_ | refine And.intro (And.intro rfl trivial) ?_ | refine And.intro (And.intro rfl (And.intro rfl trivial)) ?_
      · rintro ⟨k, hk⟩
        repeat first | refine And.intro rfl ?_ | refine Or.inl (And.intro rfl ?_) | refine Or.inr (And.intro rfl ?_) | refine And.intro (fun (_ : true = true) => ?_) (fun (h : true = false) => Bool.noConfusion h) | refine And.intro (fun (h : false = true) => Bool.noConfusion h) (fun (_ : false = false) => ?_)
        refine And.intro (fun hc => ?_) (fun hc => ?_)
        · have hk' : (k : Int) < (ps.map spB).length := of_decide_eq_true hc
          have hkl : k < ps.length := by rw [List.length_map] at hk'; omega
          obtain ⟨j, hj, hw⟩ : ∃ j : Nat, j = ps.length - k - 1 ∧ IntKind.i64.wrap (IntKind.i64.wrap (((ps.map spB).length : Int) - 1) - (k : Int)) = (j : Int) := ⟨_, rfl, by rw [List.length_map, wI (x := (ps.length : Int) - 1) (by omega) (by omega), wI (by omega) (by omega)]; omega⟩
          have g1 : (ps.map spB).getD ((j : Nat) : Int).toNat [] = spB (ps.getD j (0, 0)) := getD_sp ps _ (by omega)
          repeat first | refine And.intro rfl ?_ | refine Or.inl (And.intro rfl ?_) | refine Or.inr (And.intro rfl ?_) | refine And.intro (fun (_ : true = true) => ?_) (fun (h : true = false) => Bool.noConfusion h) | refine And.intro (fun (h : false = true) => Bool.noConfusion h) (fun (_ : false = false) => ?_)
          rw [hw]
          refine And.intro (show 0 ≤ ((j : Nat) : Int) ∧ ((j : Nat) : Int) < (ps.map spB).length by rw [List.length_map]; omega) ?_
          rw [g1]
          repeat first | refine And.intro rfl ?_ | refine Or.inl (And.intro rfl ?_) | refine Or.inr (And.intro rfl ?_) | refine And.intro (fun (_ : true = true) => ?_) (fun (h : true = false) => Bool.noConfusion h) | refine And.intro (fun (h : false = true) => Bool.noConfusion h) (fun (_ : false = false) => ?_)
          refine And.intro trivial ?_
          repeat first | refine And.intro rfl ?_ | refine Or.inl (And.intro rfl ?_) | refine Or.inr (And.intro rfl ?_) | refine And.intro (fun (_ : true = true) => ?_) (fun (h : true = false) => Bool.noConfusion h) | refine And.intro (fun (h : false = true) => Bool.noConfusion h) (fun (_ : false = false) => ?_)
          refine And.intro (show (((polyL true q ps).take k).map spB).length + 1 ≤ 1000000 by simp; omega) ?_
          repeat first | refine And.intro rfl ?_ | refine Or.inl (And.intro rfl ?_) | refine Or.inr (And.intro rfl ?_) | refine And.intro (fun (_ : true = true) => ?_) (fun (h : true = false) => Bool.noConfusion h) | refine And.intro (fun (h : false = true) => Bool.noConfusion h) (fun (_ : false = false) => ?_)
          refine Exists.intro ⟨k + 1, by omega⟩ (And.intro (show ps.length - (k + 1) < ps.length - k by omega) ?_)
          repeat first | exact trivial | refine And.intro rfl ?_ | refine And.intro trivial ?_ | refine And.intro (And.intro rfl trivial) ?_ | refine And.intro (And.intro rfl (And.intro rfl trivial)) ?_
          refine And.intro (And.intro (rwS ?_) trivial) ?_
          · show ((polyL true q ps).take k).map spB ++ [spB (apZ true q (ps.getD j (0, 0)))] = ((polyL true q ps).take (k + 1)).map spB
            rw [hj, take_succ_map spB (polyL true q ps) (0, 0) k (by rw [polyL_len]; exact hkl), polyT_getD q ps k hkl]
          · repeat first | exact trivial | refine And.intro rfl ?_ | refine And.intro trivial ?_ | refine And.intro (And.intro rfl trivial) ?_ | refine And.intro (And.intro rfl (And.intro rfl trivial)) ?_
            exact And.intro (avI (show IntKind.i64.wrap ((k : Int) + 1) = ((k + 1 : Nat) : Int) by rw [wI (by omega) (by omega)]; omega)) trivial
        · have hk' : ¬ (k : Int) < (ps.map spB).length := of_decide_eq_false hc
          rw [List.length_map] at hk'
          repeat first | refine And.intro rfl ?_ | refine Or.inl (And.intro rfl ?_) | refine Or.inr (And.intro rfl ?_) | refine And.intro (fun (_ : true = true) => ?_) (fun (h : true = false) => Bool.noConfusion h) | refine And.intro (fun (h : false = true) => Bool.noConfusion h) (fun (_ : false = false) => ?_)
          refine resSl ?_
          show ((polyL true q ps).take k).map spB = (polyL true q ps).map spB
          rw [List.take_of_length_le (by rw [polyL_len]; omega)]
  · cases h

def rotQ : Nat → Rat × Rat → Rat × Rat
  | 0, p => p
  | k + 1, p => (-(rotQ k p).2, (rotQ k p).1)
/-- A turn of a point. -/
def apQ (f : Bool) (q : Int) (p : Rat × Rat) : Rat × Rat := rotQ (q % 4).toNat (cond f (-p.1) p.1, p.2)

abbrev CP (p : Rat × Rat) : RV := .agg (cq p.1 ++ cq p.2)

/-- Both coordinates have short terms, and fit as divisors. -/
def SzP (n : Nat) (p : Rat × Rat) : Prop := (Sz n p.1 ∧ DivFit p.1.den) ∧ (Sz n p.2 ∧ DivFit p.2.den)
theorem SzP.rot {n : Nat} {p : Rat × Rat} (h : SzP n p) : ∀ k, SzP n (rotQ k p)
  | 0 => h
  | k + 1 => by
    have := SzP.rot h k
    exact ⟨⟨this.2.1.neg, by show DivFit (-(rotQ k p).2).den; rw [Rat.neg_den]; exact this.2.2⟩, this.1⟩

theorem rq_fit {s : Bool} {l t : List Nat} (h : DivFit (nv t)) : DivFit (rq s l t).den := by
  rcases Nat.eq_zero_or_pos (nv t) with h0 | h0
  · unfold rq
    rw [h0]
    simp [mkRat]
    exact fit_one
  · have e := cq_mk s (nv l) (nv t) h0
    have e2 := congrArg (fun l => l.getD 2 .any) e
    simp only [List.getD_cons_succ, List.getD_cons_zero, CV.b.injEq, BV.nat.injEq] at e2
    have d2 := dg_inj e2
    unfold rq
    rw [d2]
    exact h.mono (Nat.div_le_self _ _)

def sTurnPoint : List RV → Option (Prop × Res)
  | [.agg [.b (.val (.bool f)), .b (.val (.int .i64 q))], .agg [.b (.val (.bool s)), .b (.nat l), .b (.nat t), .b (.val (.bool s2)), .b (.nat l2), .b (.nat t2)]] =>
    some ((l.length ≤ 70000 ∧ t.length ≤ 70000 ∧ DivFit (nv t)) ∧ (l2.length ≤ 70000 ∧ t2.length ≤ 70000 ∧ DivFit (nv t2)), .r (CP (apQ f q (rq s l t, rq s2 l2 t2))))
  | _ => none

theorem neg_pre {n : Nat} {q : Rat} (h : Sz n q) (hn : n ≤ 80000) (hd : DivFit q.den) : (dg q.num.natAbs).length ≤ 80000 ∧ (dg q.den).length ≤ 80000 ∧ DivFit (nv (dg q.den)) := ⟨h.lenN hn, h.lenD hn, by rw [nv_dg]; exact hd⟩

theorem avA {cs cs' : List CV} (h : cs = cs') : AV.agg cs = AV.agg cs' := by rw [h]


set_option maxHeartbeats 1000000 in
theorem ok_turnPoint : Ok1 39 sTurnPoint := by
  refine ok_of TP0_ok Try.func39 rfl (by kernel_rfl) ?_
  intro xs pre res h hp hlim
  unfold sTurnPoint at h
  split at h
  · rename_i f q s l t s2 l2 t2
    cases h
    obtain ⟨⟨h1, h2, h3⟩, h4, h5, h6⟩ := hp
    have L1 : Lim l := hlim.2.1.2.1
    have L2 : Lim t := hlim.2.1.2.2.1
    have L3 : Lim l2 := hlim.2.1.2.2.2.2.1
    have L4 : Lim t2 := hlim.2.1.2.2.2.2.2.1
    have hz : SzP 70001 (rq s l t, rq s2 l2 t2) := ⟨⟨Sz.rq L1 L2 h1 h2, rq_fit h3⟩, Sz.rq L3 L4 h4 h5, rq_fit h6⟩
    have hz' : SzP 70001 (-(rq s l t), rq s2 l2 t2) := ⟨⟨hz.1.1.neg, by show DivFit (-(rq s l t)).den; rw [Rat.neg_den]; exact hz.1.2⟩, hz.2⟩
    refine And.intro (Nat.le_of_ble_eq_true rfl) ?_
    cases f
    · repeat first | refine And.intro rfl ?_ | refine Or.inl (And.intro rfl ?_) | refine Or.inr (And.intro rfl ?_) | refine And.intro (fun (_ : true = true) => ?_) (fun (h : true = false) => Bool.noConfusion h) | refine And.intro (fun (h : false = true) => Bool.noConfusion h) (fun (_ : false = false) => ?_)
      refine And.intro (show l.length ≤ 80000 ∧ t.length ≤ 80000 ∧ DivFit (nv t) from ⟨by omega, by omega, h3⟩) ?_
      repeat first | refine And.intro rfl ?_ | refine Or.inl (And.intro rfl ?_) | refine Or.inr (And.intro rfl ?_) | refine And.intro (fun (_ : true = true) => ?_) (fun (h : true = false) => Bool.noConfusion h) | refine And.intro (fun (h : false = true) => Bool.noConfusion h) (fun (_ : false = false) => ?_)
      refine And.intro (show l2.length ≤ 80000 ∧ t2.length ≤ 80000 ∧ DivFit (nv t2) from ⟨by omega, by omega, h6⟩) ?_
      repeat first | refine And.intro rfl ?_ | refine Or.inl (And.intro rfl ?_) | refine Or.inr (And.intro rfl ?_) | refine And.intro (fun (_ : true = true) => ?_) (fun (h : true = false) => Bool.noConfusion h) | refine And.intro (fun (h : false = true) => Bool.noConfusion h) (fun (_ : false = false) => ?_)
      refine Exists.intro {k : Nat // k ≤ (q % 4).toNat} (Exists.intro (fun k => ⟨[(2, .ptr 0 0), (3, .ptr 1 0), (4, .ptr 2 0), (20, .val (.int .i64 (q % 4))), (21, .val (.int .i64 (k.1 : Nat)))], ⟨[(23, [.val (.bool false), .val (.int .i64 q)]), (38, cq (rotQ k.1 (rq s l t, rq s2 l2 t2)).1 ++ cq (rotQ k.1 (rq s l t, rq s2 l2 t2)).2), (38, zQ ++ zQ)], []⟩⟩) (Exists.intro (fun k => (q % 4).toNat - k.1) (Exists.intro ⟨0, Nat.zero_le _⟩ (And.intro ?_ ?_))))
      · repeat first | exact trivial | refine And.intro rfl ?_ | refine And.intro trivial ?_ | refine And.intro (And.intro rfl trivial) ?_ | refine And.intro (And.intro rfl (And.intro rfl trivial)) ?_
        refine And.intro (avI (and3 q)) ?_
        repeat first | exact trivial | refine And.intro rfl ?_ | refine And.intro trivial ?_ | refine And.intro (And.intro rfl trivial) ?_ | refine And.intro (And.intro rfl (And.intro rfl trivial)) ?_
      · rintro ⟨k, hk⟩
        have hs := SzP.rot hz k
        repeat first | refine And.intro rfl ?_ | refine Or.inl (And.intro rfl ?_) | refine Or.inr (And.intro rfl ?_) | refine And.intro (fun (_ : true = true) => ?_) (fun (h : true = false) => Bool.noConfusion h) | refine And.intro (fun (h : false = true) => Bool.noConfusion h) (fun (_ : false = false) => ?_)
        refine And.intro (fun hc => ?_) (fun hc => ?_)
        · have hk' : (k : Int) < q % 4 := of_decide_eq_true hc
          repeat first | refine And.intro rfl ?_ | refine Or.inl (And.intro rfl ?_) | refine Or.inr (And.intro rfl ?_) | refine And.intro (fun (_ : true = true) => ?_) (fun (h : true = false) => Bool.noConfusion h) | refine And.intro (fun (h : false = true) => Bool.noConfusion h) (fun (_ : false = false) => ?_)
          refine And.intro (neg_pre hs.2.1 (by decide) hs.2.2) ?_
          rw [rq_cq]
          repeat first | refine And.intro rfl ?_ | refine Or.inl (And.intro rfl ?_) | refine Or.inr (And.intro rfl ?_) | refine And.intro (fun (_ : true = true) => ?_) (fun (h : true = false) => Bool.noConfusion h) | refine And.intro (fun (h : false = true) => Bool.noConfusion h) (fun (_ : false = false) => ?_)
          refine Exists.intro ⟨k + 1, by omega⟩ (And.intro (show (q % 4).toNat - (k + 1) < (q % 4).toNat - k by omega) ?_)
          repeat first | exact trivial | refine And.intro rfl ?_ | refine And.intro trivial ?_ | refine And.intro (And.intro rfl trivial) ?_ | refine And.intro (And.intro rfl (And.intro rfl trivial)) ?_
          exact And.intro (avI (show IntKind.i64.wrap ((k : Int) + 1) = ((k + 1 : Nat) : Int) by rw [wI (by omega) (by omega)]; omega)) trivial
        · have hk' : ¬ (k : Int) < q % 4 := of_decide_eq_false hc
          have hk2 : k = (q % 4).toNat := by omega
          subst hk2
          repeat first | refine And.intro rfl ?_ | refine Or.inl (And.intro rfl ?_) | refine Or.inr (And.intro rfl ?_) | refine And.intro (fun (_ : true = true) => ?_) (fun (h : true = false) => Bool.noConfusion h) | refine And.intro (fun (h : false = true) => Bool.noConfusion h) (fun (_ : false = false) => ?_)
          rfl
    · repeat first | refine And.intro rfl ?_ | refine Or.inl (And.intro rfl ?_) | refine Or.inr (And.intro rfl ?_) | refine And.intro (fun (_ : true = true) => ?_) (fun (h : true = false) => Bool.noConfusion h) | refine And.intro (fun (h : false = true) => Bool.noConfusion h) (fun (_ : false = false) => ?_)
      refine And.intro (show l.length ≤ 80000 ∧ t.length ≤ 80000 ∧ DivFit (nv t) from ⟨by omega, by omega, h3⟩) ?_
      repeat first | refine And.intro rfl ?_ | refine Or.inl (And.intro rfl ?_) | refine Or.inr (And.intro rfl ?_) | refine And.intro (fun (_ : true = true) => ?_) (fun (h : true = false) => Bool.noConfusion h) | refine And.intro (fun (h : false = true) => Bool.noConfusion h) (fun (_ : false = false) => ?_)
      refine And.intro (show l2.length ≤ 80000 ∧ t2.length ≤ 80000 ∧ DivFit (nv t2) from ⟨by omega, by omega, h6⟩) ?_
      repeat first | refine And.intro rfl ?_ | refine Or.inl (And.intro rfl ?_) | refine Or.inr (And.intro rfl ?_) | refine And.intro (fun (_ : true = true) => ?_) (fun (h : true = false) => Bool.noConfusion h) | refine And.intro (fun (h : false = true) => Bool.noConfusion h) (fun (_ : false = false) => ?_)
      refine And.intro (neg_pre hz.1.1 (by decide) hz.1.2) ?_
      rw [rq_cq]
      repeat first | refine And.intro rfl ?_ | refine Or.inl (And.intro rfl ?_) | refine Or.inr (And.intro rfl ?_) | refine And.intro (fun (_ : true = true) => ?_) (fun (h : true = false) => Bool.noConfusion h) | refine And.intro (fun (h : false = true) => Bool.noConfusion h) (fun (_ : false = false) => ?_)
      refine Exists.intro {k : Nat // k ≤ (q % 4).toNat} (Exists.intro (fun k => ⟨[(2, .ptr 0 0), (3, .ptr 1 0), (4, .ptr 2 0), (20, .val (.int .i64 (q % 4))), (21, .val (.int .i64 (k.1 : Nat)))], ⟨[(23, [.val (.bool true), .val (.int .i64 q)]), (38, cq (rotQ k.1 (-(rq s l t), rq s2 l2 t2)).1 ++ cq (rotQ k.1 (-(rq s l t), rq s2 l2 t2)).2), (38, zQ ++ zQ)], []⟩⟩) (Exists.intro (fun k => (q % 4).toNat - k.1) (Exists.intro ⟨0, Nat.zero_le _⟩ (And.intro ?_ ?_))))
      · repeat first | exact trivial | refine And.intro rfl ?_ | refine And.intro trivial ?_ | refine And.intro (And.intro rfl trivial) ?_ | refine And.intro (And.intro rfl (And.intro rfl trivial)) ?_
        refine And.intro (avI (and3 q)) ?_
        repeat first | exact trivial | refine And.intro rfl ?_ | refine And.intro trivial ?_ | refine And.intro (And.intro rfl trivial) ?_ | refine And.intro (And.intro rfl (And.intro rfl trivial)) ?_
      · rintro ⟨k, hk⟩
        have hs := SzP.rot hz' k
        repeat first | refine And.intro rfl ?_ | refine Or.inl (And.intro rfl ?_) | refine Or.inr (And.intro rfl ?_) | refine And.intro (fun (_ : true = true) => ?_) (fun (h : true = false) => Bool.noConfusion h) | refine And.intro (fun (h : false = true) => Bool.noConfusion h) (fun (_ : false = false) => ?_)
        refine And.intro (fun hc => ?_) (fun hc => ?_)
        · have hk' : (k : Int) < q % 4 := of_decide_eq_true hc
          repeat first | refine And.intro rfl ?_ | refine Or.inl (And.intro rfl ?_) | refine Or.inr (And.intro rfl ?_) | refine And.intro (fun (_ : true = true) => ?_) (fun (h : true = false) => Bool.noConfusion h) | refine And.intro (fun (h : false = true) => Bool.noConfusion h) (fun (_ : false = false) => ?_)
          refine And.intro (neg_pre hs.2.1 (by decide) hs.2.2) ?_
          rw [rq_cq]
          repeat first | refine And.intro rfl ?_ | refine Or.inl (And.intro rfl ?_) | refine Or.inr (And.intro rfl ?_) | refine And.intro (fun (_ : true = true) => ?_) (fun (h : true = false) => Bool.noConfusion h) | refine And.intro (fun (h : false = true) => Bool.noConfusion h) (fun (_ : false = false) => ?_)
          refine Exists.intro ⟨k + 1, by omega⟩ (And.intro (show (q % 4).toNat - (k + 1) < (q % 4).toNat - k by omega) ?_)
          repeat first | exact trivial | refine And.intro rfl ?_ | refine And.intro trivial ?_ | refine And.intro (And.intro rfl trivial) ?_ | refine And.intro (And.intro rfl (And.intro rfl trivial)) ?_
          exact And.intro (avI (show IntKind.i64.wrap ((k : Int) + 1) = ((k + 1 : Nat) : Int) by rw [wI (by omega) (by omega)]; omega)) trivial
        · have hk' : ¬ (k : Int) < q % 4 := of_decide_eq_false hc
          have hk2 : k = (q % 4).toNat := by omega
          subst hk2
          repeat first | refine And.intro rfl ?_ | refine Or.inl (And.intro rfl ?_) | refine Or.inr (And.intro rfl ?_) | refine And.intro (fun (_ : true = true) => ?_) (fun (h : true = false) => Bool.noConfusion h) | refine And.intro (fun (h : false = true) => Bool.noConfusion h) (fun (_ : false = false) => ?_)
          rfl
  · cases h

end Go.Gm
