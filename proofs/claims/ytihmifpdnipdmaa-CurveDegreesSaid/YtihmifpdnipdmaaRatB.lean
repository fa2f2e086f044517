/-
  The ratios of the program, part B: Norm, Neg, Cmp, Of. Plain theorems; no condition.
-/
import Derived.Test.YtihmifpdnipdmaaRat
set_option linter.all false
namespace Go.Gm
open Go.Proofs

/-- The sign of a comparison of ratios. -/
def cmpQ (a b : Rat) : Int := if a < b then -1 else if b < a then 1 else 0

theorem mk_lt {a c : Int} {b d : Nat} (hb : 0 < b) (hd : 0 < d) : mkRat a b < mkRat c d ↔ a * d < c * b := by
  have hb' : (0 : Rat) < (b : Rat) := Rat.natCast_pos.2 hb
  have hd' : (0 : Rat) < (d : Rat) := Rat.natCast_pos.2 hd
  have e0 : (c : Rat) / (d : Rat) * (b : Rat) = (c : Rat) * (b : Rat) / (d : Rat) := by grind
  rw [Rat.mkRat_eq_div, Rat.mkRat_eq_div, Rat.div_lt_iff hb', e0, Rat.lt_div_iff hd']
  have e1 : (a : Rat) * (d : Rat) = ((a * d : Int) : Rat) := by rw [Rat.intCast_mul]; rfl
  have e2 : (c : Rat) * (b : Rat) = ((c * b : Int) : Rat) := by rw [Rat.intCast_mul]; rfl
  rw [e1, e2]
  exact Rat.intCast_lt_intCast

theorem cmp_mk {a c : Int} {b d : Nat} (hb : 0 < b) (hd : 0 < d) : cmpZ (a * d) (c * b) = cmpQ (mkRat a b) (mkRat c d) := by
  unfold cmpZ cmpQ
  simp only [mk_lt hb hd, mk_lt hd hb]

def TQ2 : Table := [(113, sValue), (109, sReduce)] ++ TQ1
theorem TQ2_ok : TabOk TQ2 := TabOk.append (TabOk.cons ok_ratValue (TabOk.cons ok_ratReduce TabOk.nil)) TQ1_ok

def sRatNorm : List RV → Option (Prop × Res)
  | [.agg [.b (.val (.bool s)), .b (.nat l), .b (.nat t)]] => some (l.length ≤ 80000 ∧ t.length ≤ 80000 ∧ DivFit (nv t), .r (CQ (rq s l t)))
  | _ => none
def sRatNeg : List RV → Option (Prop × Res)
  | [.agg [.b (.val (.bool s)), .b (.nat l), .b (.nat t)]] => some (l.length ≤ 80000 ∧ t.length ≤ 80000 ∧ DivFit (nv t), .r (CQ (-(rq s l t))))
  | _ => none
def sRatCmp : List RV → Option (Prop × Res)
  | [.agg [.b (.val (.bool s)), .b (.nat l), .b (.nat t)], .agg [.b (.val (.bool s')), .b (.nat l'), .b (.nat t')]] => some (l.length ≤ 40000 ∧ t.length ≤ 40000 ∧ l'.length ≤ 40000 ∧ t'.length ≤ 40000, .r (.val (.int .i64 (cmpQ (rq s l t) (rq s' l' t')))))
  | _ => none

theorem ok_ratNorm : Ok1 102 sRatNorm := by
  refine ok_of TQ2_ok Try.func102 rfl (by kernel_rfl) ?_
  intro xs pre res h hp hlim
  unfold sRatNorm at h
  split at h
  · rename_i s l t
    cases h
    obtain ⟨p1, p2, p3⟩ := hp
    refine And.intro (Nat.le_of_ble_eq_true rfl) ?_
    repeat first | refine And.intro rfl ?_ | refine Or.inl (And.intro rfl ?_) | refine Or.inr (And.intro rfl ?_) | refine And.intro (fun (_ : true = true) => ?_) (fun (h : true = false) => Bool.noConfusion h) | refine And.intro (fun (h : false = true) => Bool.noConfusion h) (fun (_ : false = false) => ?_)
    refine And.intro (show t.length ≤ 1000000 by omega) ?_
    repeat first | refine And.intro rfl ?_ | refine Or.inl (And.intro rfl ?_) | refine Or.inr (And.intro rfl ?_) | refine And.intro (fun (_ : true = true) => ?_) (fun (h : true = false) => Bool.noConfusion h) | refine And.intro (fun (h : false = true) => Bool.noConfusion h) (fun (_ : false = false) => ?_)
    refine And.intro (show (vL l t).length ≤ 90000 ∧ (vT t).length ≤ 90000 ∧ 0 < nv (vT t) ∧ DivFit (nv (vT t)) from ⟨vL_len (by omega), vT_len (by omega) (by omega), vT_pos t, vT_fit p3⟩) ?_
    repeat first | refine And.intro rfl ?_ | refine Or.inl (And.intro rfl ?_) | refine Or.inr (And.intro rfl ?_) | refine And.intro (fun (_ : true = true) => ?_) (fun (h : true = false) => Bool.noConfusion h) | refine And.intro (fun (h : false = true) => Bool.noConfusion h) (fun (_ : false = false) => ?_)
    exact resCQ (rq_value s l t)
  · cases h

theorem rq_neg (s : Bool) (l t : List Nat) : -(rq s l t) = mkRat (-(sg s (nv l))) (nv t) := Rat.neg_mkRat _ _

theorem ok_ratNeg : Ok1 89 sRatNeg := by
  refine ok_of TQ2_ok Try.func89 rfl (by kernel_rfl) ?_
  intro xs pre res h hp hlim
  unfold sRatNeg at h
  split at h
  · rename_i s l t
    cases h
    have hl : Lim l := hlim.1.2.1
    obtain ⟨p1, p2, p3⟩ := hp
    refine And.intro (Nat.le_of_ble_eq_true rfl) ?_
    repeat first | refine And.intro rfl ?_ | refine Or.inl (And.intro rfl ?_) | refine Or.inr (And.intro rfl ?_) | refine And.intro (fun (_ : true = true) => ?_) (fun (h : true = false) => Bool.noConfusion h) | refine And.intro (fun (h : false = true) => Bool.noConfusion h) (fun (_ : false = false) => ?_)
    refine And.intro (show t.length ≤ 1000000 by omega) ?_
    repeat first | refine And.intro rfl ?_ | refine Or.inl (And.intro rfl ?_) | refine Or.inr (And.intro rfl ?_) | refine And.intro (fun (_ : true = true) => ?_) (fun (h : true = false) => Bool.noConfusion h) | refine And.intro (fun (h : false = true) => Bool.noConfusion h) (fun (_ : false = false) => ?_)
    refine And.intro (show (vL l t).length ≤ 100000 from vL_len (by omega)) ?_
    repeat first | refine And.intro rfl ?_ | refine Or.inl (And.intro rfl ?_) | refine Or.inr (And.intro rfl ?_) | refine And.intro (fun (_ : true = true) => ?_) (fun (h : true = false) => Bool.noConfusion h) | refine And.intro (fun (h : false = true) => Bool.noConfusion h) (fun (_ : false = false) => ?_)
    refine And.intro (show (dg (-(sg (vS s t) (nv (vL l t)))).natAbs).length ≤ 90000 ∧ (vT t).length ≤ 90000 ∧ 0 < nv (vT t) ∧ DivFit (nv (vT t)) from ⟨?_, vT_len (by omega) (by omega), vT_pos t, vT_fit p3⟩) ?_
    · rw [Int.natAbs_neg, sg_abs]
      exact Nat.le_trans (dg_nv_len (vL_lim hl)) (vL_len (by omega))
    · repeat first | refine And.intro rfl ?_ | refine Or.inl (And.intro rfl ?_) | refine Or.inr (And.intro rfl ?_) | refine And.intro (fun (_ : true = true) => ?_) (fun (h : true = false) => Bool.noConfusion h) | refine And.intro (fun (h : false = true) => Bool.noConfusion h) (fun (_ : false = false) => ?_)
      refine resCQ ?_
      show mkRat (sg (decide (-(sg (vS s t) (nv (vL l t))) < 0)) (nv (dg (-(sg (vS s t) (nv (vL l t)))).natAbs))) (nv (vT t)) = -(rq s l t)
      rw [sg_CI, ← rq_value s l t, rq_neg]
  · cases h

theorem sg_mul_false (z : Int) (n : Nat) : z * sg false n = z * n := rfl

theorem len_mulL {l l' : List Nat} {n m : Nat} (h : Lim l) (hn : l.length ≤ n) (h' : Lim l') (hm : l'.length ≤ m) : (dg (nv l * nv l')).length ≤ n + m := len_mul (len_of_lt h hn) (len_of_lt h' hm)

theorem ok_ratCmp : Ok1 60 sRatCmp := by
  refine ok_of TQ2_ok Try.func60 rfl (by kernel_rfl) ?_
  intro xs pre res h hp hlim
  unfold sRatCmp at h
  split at h
  · rename_i s l t s' l' t'
    cases h
    have hl : Lim l := hlim.1.2.1
    have ht : Lim t := hlim.1.2.2.1
    have hl' : Lim l' := hlim.2.1.2.1
    have ht' : Lim t' := hlim.2.1.2.2.1
    obtain ⟨p1, p2, p3, p4⟩ := hp
    refine And.intro (Nat.le_of_ble_eq_true rfl) ?_
    repeat first | refine And.intro rfl ?_ | refine Or.inl (And.intro rfl ?_) | refine Or.inr (And.intro rfl ?_) | refine And.intro (fun (_ : true = true) => ?_) (fun (h : true = false) => Bool.noConfusion h) | refine And.intro (fun (h : false = true) => Bool.noConfusion h) (fun (_ : false = false) => ?_)
    refine And.intro (show t.length ≤ 1000000 from Nat.le_trans p2 (by decide)) ?_
    repeat first | refine And.intro rfl ?_ | refine Or.inl (And.intro rfl ?_) | refine Or.inr (And.intro rfl ?_) | refine And.intro (fun (_ : true = true) => ?_) (fun (h : true = false) => Bool.noConfusion h) | refine And.intro (fun (h : false = true) => Bool.noConfusion h) (fun (_ : false = false) => ?_)
    refine And.intro (show t'.length ≤ 1000000 from Nat.le_trans p4 (by decide)) ?_
    repeat first | refine And.intro rfl ?_ | refine Or.inl (And.intro rfl ?_) | refine Or.inr (And.intro rfl ?_) | refine And.intro (fun (_ : true = true) => ?_) (fun (h : true = false) => Bool.noConfusion h) | refine And.intro (fun (h : false = true) => Bool.noConfusion h) (fun (_ : false = false) => ?_)
    refine And.intro trivial ?_
    repeat first | refine And.intro rfl ?_ | refine Or.inl (And.intro rfl ?_) | refine Or.inr (And.intro rfl ?_) | refine And.intro (fun (_ : true = true) => ?_) (fun (h : true = false) => Bool.noConfusion h) | refine And.intro (fun (h : false = true) => Bool.noConfusion h) (fun (_ : false = false) => ?_)
    refine And.intro (show (vL l t).length ≤ 40000 ∧ (vT t').length ≤ 40000 from ⟨vL_len p1, vT_len p4 (by decide)⟩) ?_
    repeat first | refine And.intro rfl ?_ | refine Or.inl (And.intro rfl ?_) | refine Or.inr (And.intro rfl ?_) | refine And.intro (fun (_ : true = true) => ?_) (fun (h : true = false) => Bool.noConfusion h) | refine And.intro (fun (h : false = true) => Bool.noConfusion h) (fun (_ : false = false) => ?_)
    refine And.intro trivial ?_
    repeat first | refine And.intro rfl ?_ | refine Or.inl (And.intro rfl ?_) | refine Or.inr (And.intro rfl ?_) | refine And.intro (fun (_ : true = true) => ?_) (fun (h : true = false) => Bool.noConfusion h) | refine And.intro (fun (h : false = true) => Bool.noConfusion h) (fun (_ : false = false) => ?_)
    refine And.intro (show (vL l' t').length ≤ 40000 ∧ (vT t).length ≤ 40000 from ⟨vL_len p3, vT_len p2 (by decide)⟩) ?_
    repeat first | refine And.intro rfl ?_ | refine Or.inl (And.intro rfl ?_) | refine Or.inr (And.intro rfl ?_) | refine And.intro (fun (_ : true = true) => ?_) (fun (h : true = false) => Bool.noConfusion h) | refine And.intro (fun (h : false = true) => Bool.noConfusion h) (fun (_ : false = false) => ?_)
    refine And.intro (show (dg (sg (vS s t) (nv (vL l t)) * sg false (nv (vT t'))).natAbs).length ≤ 100000 ∧ (dg (sg (vS s' t') (nv (vL l' t')) * sg false (nv (vT t))).natAbs).length ≤ 100000 from ⟨?_, ?_⟩) ?_
    · rw [Int.natAbs_mul, sg_abs, sg_abs]; exact Nat.le_trans (len_mulL (vL_lim hl) (vL_len p1) (vT_lim ht') (vT_len p4 (by decide))) (by decide)
    · rw [Int.natAbs_mul, sg_abs, sg_abs]; exact Nat.le_trans (len_mulL (vL_lim hl') (vL_len p3) (vT_lim ht) (vT_len p2 (by decide))) (by decide)
    · repeat first | refine And.intro rfl ?_ | refine Or.inl (And.intro rfl ?_) | refine Or.inr (And.intro rfl ?_) | refine And.intro (fun (_ : true = true) => ?_) (fun (h : true = false) => Bool.noConfusion h) | refine And.intro (fun (h : false = true) => Bool.noConfusion h) (fun (_ : false = false) => ?_)
      refine resI ?_
      show cmpZ (sg (decide (sg (vS s t) (nv (vL l t)) * sg false (nv (vT t')) < 0)) (nv (dg (sg (vS s t) (nv (vL l t)) * sg false (nv (vT t'))).natAbs))) (sg (decide (sg (vS s' t') (nv (vL l' t')) * sg false (nv (vT t)) < 0)) (nv (dg (sg (vS s' t') (nv (vL l' t')) * sg false (nv (vT t))).natAbs))) = cmpQ (rq s l t) (rq s' l' t')
      rw [sg_CI, sg_CI, sg_mul_false, sg_mul_false, cmp_mk (vT_pos t) (vT_pos t'), ← rq_value s l t, ← rq_value s' l' t']
      rfl
  · cases h

def sRatOf : List RV → Option (Prop × Res)
  | [.one (.b (.val (.int .i64 a))), .one (.b (.val (.int .i64 b)))] => some (-9223372036854775808 ≤ a ∧ a < 9223372036854775808 ∧ -9223372036854775808 ≤ b ∧ b < 9223372036854775808 ∧ b ≠ 0 ∧ DivFit b.natAbs, .t [CQ (mkRat (sg (!(decide (a < 0) == decide (b < 0))) a.natAbs) b.natAbs), .val (.bool true)])
  | _ => none

theorem two_len {m : Nat} (hm : m < 18446744073709551616) : (dg m).length ≤ 2 := dg_len_of_lt m 2 (by rw [B_eq]; omega)

theorem ok_ratOf : Ok1 51 sRatOf := by
  refine ok_of TQ2_ok Try.func51 rfl (by kernel_rfl) ?_
  intro xs pre res h hp hlim
  unfold sRatOf at h
  split at h
  · rename_i a b
    cases h
    obtain ⟨p1, p2, p3, p4, p5, p6⟩ := hp
    refine And.intro (Nat.le_of_ble_eq_true rfl) ?_
    repeat first | refine And.intro rfl ?_ | refine Or.inl (And.intro rfl ?_) | refine Or.inr (And.intro rfl ?_) | refine And.intro (fun (_ : true = true) => ?_) (fun (h : true = false) => Bool.noConfusion h) | refine And.intro (fun (h : false = true) => Bool.noConfusion h) (fun (_ : false = false) => ?_)
    refine And.intro (fun hc => ?_) (fun hc => ?_)
    · exact absurd (by simpa using hc) p5
    · repeat first | refine And.intro rfl ?_ | refine Or.inl (And.intro rfl ?_) | refine Or.inr (And.intro rfl ?_) | refine And.intro (fun (_ : true = true) => ?_) (fun (h : true = false) => Bool.noConfusion h) | refine And.intro (fun (h : false = true) => Bool.noConfusion h) (fun (_ : false = false) => ?_)
      refine And.intro (And.intro p1 p2) ?_
      repeat first | refine And.intro rfl ?_ | refine Or.inl (And.intro rfl ?_) | refine Or.inr (And.intro rfl ?_) | refine And.intro (fun (_ : true = true) => ?_) (fun (h : true = false) => Bool.noConfusion h) | refine And.intro (fun (h : false = true) => Bool.noConfusion h) (fun (_ : false = false) => ?_)
      refine And.intro (And.intro p3 p4) ?_
      repeat first | refine And.intro rfl ?_ | refine Or.inl (And.intro rfl ?_) | refine Or.inr (And.intro rfl ?_) | refine And.intro (fun (_ : true = true) => ?_) (fun (h : true = false) => Bool.noConfusion h) | refine And.intro (fun (h : false = true) => Bool.noConfusion h) (fun (_ : false = false) => ?_)
      refine And.intro (show (dg a.natAbs).length ≤ 90000 ∧ (dg b.natAbs).length ≤ 90000 ∧ 0 < nv (dg b.natAbs) ∧ DivFit (nv (dg b.natAbs)) from ⟨Nat.le_trans (two_len (by omega)) (by decide), Nat.le_trans (two_len (by omega)) (by decide), by rw [nv_dg]; omega, by rw [nv_dg]; exact p6⟩) ?_
      repeat first | refine And.intro rfl ?_ | refine Or.inl (And.intro rfl ?_) | refine Or.inr (And.intro rfl ?_) | refine And.intro (fun (_ : true = true) => ?_) (fun (h : true = false) => Bool.noConfusion h) | refine And.intro (fun (h : false = true) => Bool.noConfusion h) (fun (_ : false = false) => ?_)
      show Res.t [CQ (mkRat (sg (!(decide (a < 0) == decide (b < 0))) (nv (dg a.natAbs))) (nv (dg b.natAbs))), .val (.bool true)] = _
      rw [nv_dg, nv_dg]
  · cases h

end Go.Gm
