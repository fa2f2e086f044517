/-
  The statements about curves, part H: CurveRefines. Plain theorems; no condition.
-/
import Derived.Test.YtihmifpdnipdmaaLawS
set_option linter.all false
namespace Go.Gm
open Go.Proofs

attribute [local irreducible] sameL bez mkRat rq fltQ


theorem nB_at' (L : List (Rat × Rat)) (i : Nat) (h : i < L.length) : (nB L).getD ((i : Nat) : Int).toNat [] = ptB (prQ (L.getD i (0, 0))) := by
  rw [Int.toNat_natCast]
  simp [nB, nrm, List.getD_eq_getElem?_getD, h]

def sCurveRefines : List RV → Option (Prop × Res)
  | [.one (.sl 6 c), .one (.b (.val (.int .u8 n)))] => some (IsP c ∧ 0 ≤ n ∧ n < 256, .r (.val (.bool true)))
  | _ => none

set_option maxRecDepth 20000 in
set_option maxHeartbeats 4000000 in
theorem ok_CurveRefines : Ok1 28 sCurveRefines := by
  refine ok_of TE1_ok Try.func28 rfl (by kernel_rfl) ?_
  intro xs pre res h hp hlim
  unfold sCurveRefines at h
  split at h
  · rename_i c n
    cases h
    obtain ⟨hp, hn0, hn1⟩ := hp
    obtain ⟨m, rfl⟩ : ∃ m : Nat, n = ((m : Nat) : Int) := ⟨n.toNat, by omega⟩
    refine And.intro (Nat.le_of_ble_eq_true rfl) ?_
    repeat first | refine And.intro rfl ?_ | refine Or.inl (And.intro rfl ?_) | refine Or.inr (And.intro rfl ?_) | refine And.intro (fun (_ : true = true) => ?_) (fun (h : true = false) => Bool.noConfusion h) | refine And.intro (fun (h : false = true) => Bool.noConfusion h) (fun (_ : false = false) => ?_)
    refine And.intro (show IsP c ∧ (4 : Int) ≤ 1000 from ⟨hp, by decide⟩) ?_
    repeat first | refine And.intro rfl ?_ | refine And.intro True.intro ?_ | refine Or.inl (And.intro rfl ?_) | refine Or.inr (And.intro rfl ?_) | refine And.intro (fun (_ : true = true) => ?_) (fun (h : true = false) => Bool.noConfusion h) | refine And.intro (fun (h : false = true) => Bool.noConfusion h) (fun (_ : false = false) => ?_)
    cases hL : (decide ((c.length : Int) ≤ 4) && (ptsOf c).all (lightPR 3)) with
    | false =>
      refine Or.inr (And.intro rfl ?_)
      repeat first | refine And.intro rfl ?_ | refine And.intro True.intro ?_ | refine Or.inl (And.intro rfl ?_) | refine Or.inr (And.intro rfl ?_) | refine And.intro (fun (_ : true = true) => ?_) (fun (h : true = false) => Bool.noConfusion h) | refine And.intro (fun (h : false = true) => Bool.noConfusion h) (fun (_ : false = false) => ?_)
      rfl
    | true =>
      refine Or.inl (And.intro rfl ?_)
      obtain ⟨h4, ps, rfl, hpl, hps⟩ := light_c (m := 4) (n := 3) hp hL
      rw [← hpl] at h4
      have hlm := lm_of hlim.1
      repeat first | refine And.intro rfl ?_ | refine And.intro True.intro ?_ | refine Or.inl (And.intro rfl ?_) | refine Or.inr (And.intro rfl ?_) | refine And.intro (fun (_ : true = true) => ?_) (fun (h : true = false) => Bool.noConfusion h) | refine And.intro (fun (h : false = true) => Bool.noConfusion h) (fun (_ : false = false) => ?_)
      by_cases hT : ((((ps.map ptB).length : Nat) : Int) < 2)
      case pos =>
        refine Or.inr (And.intro (show decide ((((ps.map ptB).length : Nat) : Int) < 2) = true from decide_eq_true hT) ?_)
        repeat first | refine And.intro rfl ?_ | refine And.intro True.intro ?_ | refine Or.inl (And.intro rfl ?_) | refine Or.inr (And.intro rfl ?_) | refine And.intro (fun (_ : true = true) => ?_) (fun (h : true = false) => Bool.noConfusion h) | refine And.intro (fun (h : false = true) => Bool.noConfusion h) (fun (_ : false = false) => ?_)
        rfl
      refine Or.inl (And.intro (show decide ((((ps.map ptB).length : Nat) : Int) < 2) = false from decide_eq_false hT) ?_)
      repeat first | refine And.intro rfl ?_ | refine And.intro True.intro ?_ | refine Or.inl (And.intro rfl ?_) | refine Or.inr (And.intro rfl ?_) | refine And.intro (fun (_ : true = true) => ?_) (fun (h : true = false) => Bool.noConfusion h) | refine And.intro (fun (h : false = true) => Bool.noConfusion h) (fun (_ : false = false) => ?_)
      by_cases hU : ((m : Nat) : Int) < 1
      case pos =>
        refine Or.inr (And.intro (show decide (((m : Nat) : Int) < 1) = true from decide_eq_true hU) ?_)
        repeat first | refine And.intro rfl ?_ | refine And.intro True.intro ?_ | refine Or.inl (And.intro rfl ?_) | refine Or.inr (And.intro rfl ?_) | refine And.intro (fun (_ : true = true) => ?_) (fun (h : true = false) => Bool.noConfusion h) | refine And.intro (fun (h : false = true) => Bool.noConfusion h) (fun (_ : false = false) => ?_)
        rfl
      refine Or.inl (And.intro (show decide (((m : Nat) : Int) < 1) = false from decide_eq_false hU) ?_)
      repeat first | refine And.intro rfl ?_ | refine And.intro True.intro ?_ | refine Or.inl (And.intro rfl ?_) | refine Or.inr (And.intro rfl ?_) | refine And.intro (fun (_ : true = true) => ?_) (fun (h : true = false) => Bool.noConfusion h) | refine And.intro (fun (h : false = true) => Bool.noConfusion h) (fun (_ : false = false) => ?_)
      refine And.intro (fun hc => ?_) (fun hc => ?_)
      · repeat first | refine And.intro rfl ?_ | refine And.intro True.intro ?_ | refine Or.inl (And.intro rfl ?_) | refine Or.inr (And.intro rfl ?_) | refine And.intro (fun (_ : true = true) => ?_) (fun (h : true = false) => Bool.noConfusion h) | refine And.intro (fun (h : false = true) => Bool.noConfusion h) (fun (_ : false = false) => ?_)
        rfl
      have hm2 : m ≤ 19 := by
        have : ¬ ((m : Nat) : Int) > 19 := of_decide_eq_false hc
        omega
      have h2 : 2 ≤ ps.length := by
        rw [List.length_map] at hT
        omega
      have oc := okC_ps h2 h4
      have vc := valsOf_B ps
      have svs := sp_vals hlm hps
      obtain ⟨vs, hvs⟩ : ∃ vs, vs = ps.map PR.v := ⟨_, rfl⟩
      have hvl : vs.length = ps.length := by rw [hvs, List.length_map]
      rw [← hvs] at vc svs
      have v2 : 2 ≤ vs.length := by omega
      have v4 : vs.length ≤ 4 := by omega
      have w1 : IntKind.i64.wrap ((m : Nat) : Int) = ((m : Nat) : Int) := wI (by omega) (by omega)
      have w2 : IntKind.i64.wrap (2 * ((m : Nat) : Int)) = ((2 * m : Nat) : Int) := by rw [wI (by omega) (by omega)]; omega
      have ok1 : okN ((m : Nat) : Int) = true := decide_eq_true (by omega)
      have ok2 : okN ((2 * m : Nat) : Int) = true := decide_eq_true (by omega)
      repeat first | refine And.intro rfl ?_ | refine And.intro True.intro ?_ | refine Or.inl (And.intro rfl ?_) | refine Or.inr (And.intro rfl ?_) | refine And.intro (fun (_ : true = true) => ?_) (fun (h : true = false) => Bool.noConfusion h) | refine And.intro (fun (h : false = true) => Bool.noConfusion h) (fun (_ : false = false) => ?_)
      refine And.intro (And.intro (sh_ps hps (by decide)) (show InR (IntKind.i64.wrap ((m : Nat) : Int)) by rw [w1]; exact ⟨by omega, by omega⟩)) ?_
      rw [oc, vc, w1, ok1, Int.toNat_natCast]
      generalize eA : fltQ vs m = A
      have lA : A.length = m + 1 := by rw [← eA, fltQ_len]
      repeat first | refine And.intro rfl ?_ | refine And.intro True.intro ?_ | refine Or.inl (And.intro rfl ?_) | refine Or.inr (And.intro rfl ?_) | refine And.intro (fun (_ : true = true) => ?_) (fun (h : true = false) => Bool.noConfusion h) | refine And.intro (fun (h : false = true) => Bool.noConfusion h) (fun (_ : false = false) => ?_)
      refine And.intro (And.intro (sh_ps hps (by decide)) (show InR (IntKind.i64.wrap (2 * IntKind.i64.wrap ((m : Nat) : Int))) by rw [w1, w2]; exact ⟨by omega, by omega⟩)) ?_
      rw [oc, vc, w1, w2, ok2, Int.toNat_natCast]
      generalize eB : fltQ vs (2 * m) = B'
      have lB : B'.length = 2 * m + 1 := by rw [← eB, fltQ_len]
      repeat first | refine And.intro rfl ?_ | refine And.intro True.intro ?_ | refine Or.inl (And.intro rfl ?_) | refine Or.inr (And.intro rfl ?_) | refine And.intro (fun (_ : true = true) => ?_) (fun (h : true = false) => Bool.noConfusion h) | refine And.intro (fun (h : false = true) => Bool.noConfusion h) (fun (_ : false = false) => ?_)
      have gA : (!((((nB A).length : Nat) : Int) == IntKind.i64.wrap (IntKind.i64.wrap ((m : Nat) : Int) + 1))) = false := by
        rw [nB_len, lA, w1, wI (by omega) (by omega)]
        simp
      have gB : (!((((nB B').length : Nat) : Int) == IntKind.i64.wrap (IntKind.i64.wrap (2 * IntKind.i64.wrap ((m : Nat) : Int)) + 1))) = false := by
        rw [nB_len, lB, w1, w2, wI (by omega) (by omega)]
        simp
      refine Or.inl (And.intro gA ?_)
      repeat first | refine And.intro rfl ?_ | refine And.intro True.intro ?_ | refine Or.inl (And.intro rfl ?_) | refine Or.inr (And.intro rfl ?_) | refine And.intro (fun (_ : true = true) => ?_) (fun (h : true = false) => Bool.noConfusion h) | refine And.intro (fun (h : false = true) => Bool.noConfusion h) (fun (_ : false = false) => ?_)
      refine And.intro (fun hc => Bool.noConfusion (gB.symm.trans hc)) (fun _ => ?_)
      repeat first | refine And.intro rfl ?_ | refine And.intro True.intro ?_ | refine Or.inl (And.intro rfl ?_) | refine Or.inr (And.intro rfl ?_) | refine And.intro (fun (_ : true = true) => ?_) (fun (h : true = false) => Bool.noConfusion h) | refine And.intro (fun (h : false = true) => Bool.noConfusion h) (fun (_ : false = false) => ?_)
      refine Exists.intro {k : Nat // k ≤ m + 1} (Exists.intro (fun k => ⟨[(5, .one (.sl 6 (nB A))), (7, .one (.sl 6 (nB B'))), (66, .val (.int .i64 ((nB A).length : Nat))), (67, .val (.int .i64 (k.1 : Nat)))], ⟨[], []⟩⟩) (Exists.intro (fun k => m + 1 - k.1) (Exists.intro ⟨0, by omega⟩ (And.intro ?_ ?_))))
      · repeat first | exact trivial | refine And.intro rfl ?_ | refine And.intro trivial ?_ | refine And.intro (And.intro rfl trivial) ?_ | refine And.intro (And.intro rfl (And.intro rfl trivial)) ?_
      · rintro ⟨k, hk⟩
        repeat first | refine And.intro rfl ?_ | refine Or.inl (And.intro rfl ?_) | refine Or.inr (And.intro rfl ?_) | refine And.intro (fun (_ : true = true) => ?_) (fun (h : true = false) => Bool.noConfusion h) | refine And.intro (fun (h : false = true) => Bool.noConfusion h) (fun (_ : false = false) => ?_)
        refine And.intro (fun hc => ?_) (fun hc => ?_)
        · have hk' : (k : Int) < (((nB A).length : Nat) : Int) := of_decide_eq_true hc
          rw [nB_len, lA] at hk'
          have pA := nB_at' A k (by omega)
          have pB := nB_at' B' (2 * k) (by omega)
          have wk : IntKind.i64.wrap (2 * ((k : Nat) : Int)) = ((2 * k : Nat) : Int) := by rw [wI (by omega) (by omega)]; omega
          have hAB : A.getD k (0, 0) = B'.getD (2 * k) (0, 0) := by rw [← eA, ← eB]; exact flt_twice vs (by omega) (by omega)
          have sA : Sp 200 (A.getD k (0, 0)) := by rw [← eA, fltQ_at _ _ _ (by omega)]; exact (bez_sp3 (frac_sz (by omega) (by omega)) v2 v4 svs).mono (by decide +kernel)
          generalize A.getD k (0, 0) = P at pA hAB sA
          generalize B'.getD (2 * k) (0, 0) = Q at pB hAB
          repeat first | refine And.intro rfl ?_ | refine Or.inl (And.intro rfl ?_) | refine Or.inr (And.intro rfl ?_) | refine And.intro (fun (_ : true = true) => ?_) (fun (h : true = false) => Bool.noConfusion h) | refine And.intro (fun (h : false = true) => Bool.noConfusion h) (fun (_ : false = false) => ?_)
          refine And.intro (show 0 ≤ (k : Int) ∧ (k : Int) < (((nB A).length : Nat) : Int) by rw [nB_len, lA]; omega) ?_
          rw [pA]
          repeat first | refine And.intro rfl ?_ | refine And.intro True.intro ?_ | refine Or.inl (And.intro rfl ?_) | refine Or.inr (And.intro rfl ?_) | refine And.intro (fun (_ : true = true) => ?_) (fun (h : true = false) => Bool.noConfusion h) | refine And.intro (fun (h : false = true) => Bool.noConfusion h) (fun (_ : false = false) => ?_)
          refine And.intro (show 0 ≤ IntKind.i64.wrap (2 * ((k : Nat) : Int)) ∧ IntKind.i64.wrap (2 * ((k : Nat) : Int)) < (((nB B').length : Nat) : Int) by rw [wk, nB_len, lB]; omega) ?_
          rw [wk, pB]
          repeat first | refine And.intro rfl ?_ | refine And.intro True.intro ?_ | refine Or.inl (And.intro rfl ?_) | refine Or.inr (And.intro rfl ?_) | refine And.intro (fun (_ : true = true) => ?_) (fun (h : true = false) => Bool.noConfusion h) | refine And.intro (fun (h : false = true) => Bool.noConfusion h) (fun (_ : false = false) => ?_)
          refine And.intro (And.intro (show ShP 1000000 (nB [P]) from sh_nB (fun z hz => by
              simp only [List.mem_cons, List.not_mem_nil, or_false] at hz
              rw [hz]; exact sA) (by decide)) (And.intro (isP_B (nrm [Q])) (show (nB [P]).length ≤ 1000 by rw [nB_len]; exact Nat.le_of_ble_eq_true rfl))) ?_
          repeat first | refine And.intro rfl ?_ | refine And.intro True.intro ?_ | refine Or.inl (And.intro rfl ?_) | refine Or.inr (And.intro rfl ?_) | refine And.intro (fun (_ : true = true) => ?_) (fun (h : true = false) => Bool.noConfusion h) | refine And.intro (fun (h : false = true) => Bool.noConfusion h) (fun (_ : false = false) => ?_)
          have e := same_nB (L := [P]) (M := [Q]) (by rw [hAB])
          refine And.intro (fun hc => Bool.noConfusion (show false = true from (congrArg Bool.not e).symm.trans hc)) (fun _ => ?_)
          repeat first | refine And.intro rfl ?_ | refine And.intro True.intro ?_ | refine Or.inl (And.intro rfl ?_) | refine Or.inr (And.intro rfl ?_) | refine And.intro (fun (_ : true = true) => ?_) (fun (h : true = false) => Bool.noConfusion h) | refine And.intro (fun (h : false = true) => Bool.noConfusion h) (fun (_ : false = false) => ?_)
          refine Exists.intro ⟨k + 1, by omega⟩ (And.intro (show m + 1 - (k + 1) < m + 1 - k by omega) ?_)
          repeat first | exact trivial | refine And.intro rfl ?_ | refine And.intro trivial ?_ | refine And.intro (And.intro rfl trivial) ?_ | refine And.intro (And.intro rfl (And.intro rfl trivial)) ?_
          exact And.intro (avI (show IntKind.i64.wrap ((k : Int) + 1) = ((k + 1 : Nat) : Int) by rw [wI (by omega) (by omega)]; omega)) trivial
        · repeat first | refine And.intro rfl ?_ | refine And.intro True.intro ?_ | refine Or.inl (And.intro rfl ?_) | refine Or.inr (And.intro rfl ?_) | refine And.intro (fun (_ : true = true) => ?_) (fun (h : true = false) => Bool.noConfusion h) | refine And.intro (fun (h : false = true) => Bool.noConfusion h) (fun (_ : false = false) => ?_)
          rfl
  · cases h

end Go.Gm
