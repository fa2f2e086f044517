/-
  The ratios of the program. Plain theorems; no condition.
-/
import Derived.Test.YtihmifpdnipdmaaInt
set_option linter.all false
namespace Go.Gm
open Go.Proofs

/-- A ratio in normal form. -/
abbrev cq (q : Rat) : List CV := [.val (.bool (decide (q.num < 0))), .nat (dg q.num.natAbs), .nat (dg q.den)]
abbrev CQ (q : Rat) : RV := .agg (cq q)

/-- What three cells stand for. -/
def rq (s : Bool) (l t : List Nat) : Rat := mkRat (sg s (nv l)) (nv t)

theorem rq_cq (q : Rat) : rq (decide (q.num < 0)) (dg q.num.natAbs) (dg q.den) = q := by
  unfold rq
  rw [sg_CI, nv_dg]
  exact Rat.mkRat_self q

theorem resCQ {q q' : Rat} (h : q = q') : Res.r (CQ q) = Res.r (CQ q') := by rw [h]

theorem ediv_sg (s : Bool) (x g : Nat) (h : g ∣ x) : sg s x / (g : Int) = sg s (x / g) := by
  cases s
  · rw [sg_false, sg_false]; exact (Int.natCast_ediv x g).symm
  · rw [sg_true, sg_true, Int.neg_ediv_of_dvd (Int.natCast_dvd_natCast.2 h), ← Int.natCast_ediv]

theorem cq_mk (s : Bool) (x y : Nat) (hy : 0 < y) : cq (mkRat (sg s x) y) = [.val (.bool (decide (sg s (x / Nat.gcd x y) < 0))), .nat (dg (x / Nat.gcd x y)), .nat (dg (y / Nat.gcd x y))] := by
  have hy' : y ≠ 0 := by omega
  have e : mkRat (sg s x) y = Rat.normalize (sg s x) y hy' := (Rat.normalize_eq_mkRat hy').symm
  have hn : (mkRat (sg s x) y).num = sg s (x / Nat.gcd x y) := by
    rw [e, Rat.normalize_eq]
    simp only [sg_abs]
    exact ediv_sg s x _ (Nat.gcd_dvd_left x y)
  have hd : (mkRat (sg s x) y).den = y / Nat.gcd x y := by
    rw [e, Rat.normalize_eq]
    simp only [sg_abs]
  unfold cq
  rw [hn, hd, sg_abs]

def TQ0 : Table := [(149, sGcd), (150, sDivMod), (132, sIntNeg), (115, sIntMul), (133, sIntAdd), (114, sIntCmp), (108, sIntOf)] ++ TI2
theorem TQ0_ok : TabOk TQ0 := TabOk.append (TabOk.cons ok_natGcd (TabOk.cons ok_natDivMod (TabOk.cons ok_intNeg (TabOk.cons ok_intMul (TabOk.cons ok_intAdd (TabOk.cons ok_intCmp (TabOk.cons ok_intOf TabOk.nil))))))) TI2_ok

def sZero : List RV → Option (Prop × Res)
  | [.one (.b (.nat l))] => some (l.length ≤ 1000000, .r (.val (.bool (Nat.beq (nv l) 0))))
  | _ => none

theorem ok_ratZero : Ok1 152 sZero := by
  refine ok_of TQ0_ok Try.func152 rfl (by kernel_rfl) ?_
  intro xs pre res h hp hlim
  unfold sZero at h
  split at h
  · rename_i l
    cases h
    refine And.intro (Nat.le_of_ble_eq_true rfl) ?_
    repeat first | refine And.intro rfl ?_ | refine Or.inl (And.intro rfl ?_) | refine Or.inr (And.intro rfl ?_) | refine And.intro (fun (_ : true = true) => ?_) (fun (h : true = false) => Bool.noConfusion h) | refine And.intro (fun (h : false = true) => Bool.noConfusion h) (fun (_ : false = false) => ?_)
    refine And.intro (show l.length ≤ 1000000 ∧ ([] : List Nat).length ≤ 1000000 from ⟨hp, by decide⟩) ?_
    show Res.r (.val (.bool (cmpZ (nv l) (nv []) == 0))) = Res.r (.val (.bool (Nat.beq (nv l) 0)))
    cases hn : nv l with
    | zero => rfl
    | succ n => rw [cmpZ_gt (show ((nv [] : Nat) : Int) < ((n + 1 : Nat) : Int) from Int.ofNat_lt.2 (Nat.succ_pos n))]; rfl
  · cases h

def sPositive : List RV → Option (Prop × Res)
  | [.one (.b (.nat l))] => some (True, .r (.agg [.val (.bool false), .nat l]))
  | _ => none

theorem ok_ratPositive : Ok1 116 sPositive := by
  refine ok_of TQ0_ok Try.func116 rfl (by kernel_rfl) ?_
  intro xs pre res h hp hlim
  unfold sPositive at h
  split at h
  · rename_i l
    cases h
    refine And.intro (Nat.le_of_ble_eq_true rfl) ?_
    repeat first | refine And.intro rfl ?_ | refine Or.inl (And.intro rfl ?_) | refine Or.inr (And.intro rfl ?_) | refine And.intro (fun (_ : true = true) => ?_) (fun (h : true = false) => Bool.noConfusion h) | refine And.intro (fun (h : false = true) => Bool.noConfusion h) (fun (_ : false = false) => ?_)
    rfl
  · cases h

def vS (s : Bool) (t : List Nat) : Bool := cond (Nat.beq (nv t) 0) false s
def vL (l t : List Nat) : List Nat := cond (Nat.beq (nv t) 0) [] l
def vT (t : List Nat) : List Nat := cond (Nat.beq (nv t) 0) (dg 1) t

theorem vT_pos (t : List Nat) : 0 < nv (vT t) := by
  unfold vT
  cases h : Nat.beq (nv t) 0 with
  | true => rw [cond_true, nv_dg]; decide
  | false =>
    rw [cond_false]
    rcases Nat.eq_zero_or_pos (nv t) with h0 | h0
    · rw [h0] at h; cases h
    · exact h0
theorem vT_fit {t : List Nat} (h : DivFit (nv t)) : DivFit (nv (vT t)) := by
  unfold vT
  cases Nat.beq (nv t) 0 with
  | true => rw [cond_true, nv_dg]; trivial
  | false => exact h
theorem vT_len {t : List Nat} {n : Nat} (h : t.length ≤ n) (h1 : 1 ≤ n) : (vT t).length ≤ n := by
  unfold vT
  cases Nat.beq (nv t) 0 with
  | true => rw [cond_true, dg_one 1 (by decide) (by decide)]; exact h1
  | false => exact h
theorem vL_len {l t : List Nat} {n : Nat} (h : l.length ≤ n) : (vL l t).length ≤ n := by
  unfold vL
  cases Nat.beq (nv t) 0 with
  | true => exact Nat.zero_le _
  | false => exact h
theorem vL_lim {l t : List Nat} (h : Lim l) : Lim (vL l t) := by
  unfold vL
  cases Nat.beq (nv t) 0 with
  | true => exact Lim.nil
  | false => exact h
theorem vT_lim {t : List Nat} (h : Lim t) : Lim (vT t) := by
  unfold vT
  cases Nat.beq (nv t) 0 with
  | true => exact dg_lim 1
  | false => exact h
theorem rq_value (s : Bool) (l t : List Nat) : rq (vS s t) (vL l t) (vT t) = rq s l t := by
  unfold rq vS vL vT
  cases h : Nat.beq (nv t) 0 with
  | true =>
    have h0 := Nat.eq_of_beq_eq_true h
    rw [h0]
    simp only [cond_true, sg_false, nv, nv_dg]
    simp [mkRat]
  | false => rfl

def sValue : List RV → Option (Prop × Res)
  | [.agg [.b (.val (.bool s)), .b (.nat l), .b (.nat t)]] => some (t.length ≤ 1000000, .r (.agg [.val (.bool (vS s t)), .nat (vL l t), .nat (vT t)]))
  | _ => none

def TQ1 : Table := [(152, sZero), (116, sPositive)] ++ TQ0
theorem TQ1_ok : TabOk TQ1 := TabOk.append (TabOk.cons ok_ratZero (TabOk.cons ok_ratPositive TabOk.nil)) TQ0_ok

theorem ok_ratValue : Ok1 113 sValue := by
  refine ok_of TQ1_ok Try.func113 rfl (by kernel_rfl) ?_
  intro xs pre res h hp hlim
  unfold sValue at h
  split at h
  · rename_i s l t
    cases h
    refine And.intro (Nat.le_of_ble_eq_true rfl) ?_
    repeat first | refine And.intro rfl ?_ | refine Or.inl (And.intro rfl ?_) | refine Or.inr (And.intro rfl ?_) | refine And.intro (fun (_ : true = true) => ?_) (fun (h : true = false) => Bool.noConfusion h) | refine And.intro (fun (h : false = true) => Bool.noConfusion h) (fun (_ : false = false) => ?_)
    refine And.intro hp ?_
    repeat first | refine And.intro rfl ?_ | refine Or.inl (And.intro rfl ?_) | refine Or.inr (And.intro rfl ?_) | refine And.intro (fun (_ : true = true) => ?_) (fun (h : true = false) => Bool.noConfusion h) | refine And.intro (fun (h : false = true) => Bool.noConfusion h) (fun (_ : false = false) => ?_)
    refine And.intro (fun hc => ?_) (fun hc => ?_)
    · repeat first | refine And.intro rfl ?_ | refine Or.inl (And.intro rfl ?_) | refine Or.inr (And.intro rfl ?_) | refine And.intro (fun (_ : true = true) => ?_) (fun (h : true = false) => Bool.noConfusion h) | refine And.intro (fun (h : false = true) => Bool.noConfusion h) (fun (_ : false = false) => ?_)
      refine And.intro (show (0 : Int) ≤ 1 ∧ (1 : Int) < 18446744073709551616 by decide) ?_
      repeat first | refine And.intro rfl ?_ | refine Or.inl (And.intro rfl ?_) | refine Or.inr (And.intro rfl ?_) | refine And.intro (fun (_ : true = true) => ?_) (fun (h : true = false) => Bool.noConfusion h) | refine And.intro (fun (h : false = true) => Bool.noConfusion h) (fun (_ : false = false) => ?_)
      show _ = Res.r (.agg [.val (.bool (vS s t)), .nat (vL l t), .nat (vT t)])
      unfold vS vL vT
      rw [hc]
      rfl
    · repeat first | refine And.intro rfl ?_ | refine Or.inl (And.intro rfl ?_) | refine Or.inr (And.intro rfl ?_) | refine And.intro (fun (_ : true = true) => ?_) (fun (h : true = false) => Bool.noConfusion h) | refine And.intro (fun (h : false = true) => Bool.noConfusion h) (fun (_ : false = false) => ?_)
      show _ = Res.r (.agg [.val (.bool (vS s t)), .nat (vL l t), .nat (vT t)])
      unfold vS vL vT
      rw [hc]
      rfl
  · cases h

def sReduce : List RV → Option (Prop × Res)
  | [.agg [.b (.val (.bool s)), .b (.nat l)], .one (.b (.nat t))] => some (l.length ≤ 90000 ∧ t.length ≤ 90000 ∧ 0 < nv t ∧ DivFit (nv t), .r (CQ (rq s l t)))
  | _ => none

theorem ok_ratReduce : Ok1 109 sReduce := by
  refine ok_of TQ1_ok Try.func109 rfl (by kernel_rfl) ?_
  intro xs pre res h hp hlim
  unfold sReduce at h
  split at h
  · rename_i s l t
    cases h
    have hl : Lim l := hlim.1.2.1
    have ht : Lim t := hlim.2.1
    obtain ⟨p1, p2, p3, p4⟩ := hp
    have hg : Nat.gcd (nv l) (nv t) ≤ nv t := Nat.gcd_le_right _ p3
    have hgl : (dg (Nat.gcd (nv l) (nv t))).length ≤ 100000 := Nat.le_trans (len_le hg (len_of_lt ht p2)) (by decide)
    have hql : (dg (nv l / nv (dg (Nat.gcd (nv l) (nv t))))).length ≤ 100000 := Nat.le_trans (len_le (Nat.div_le_self _ _) (len_of_lt hl p1)) (by decide)
    refine And.intro (Nat.le_of_ble_eq_true rfl) ?_
    repeat first | refine And.intro rfl ?_ | refine Or.inl (And.intro rfl ?_) | refine Or.inr (And.intro rfl ?_) | refine And.intro (fun (_ : true = true) => ?_) (fun (h : true = false) => Bool.noConfusion h) | refine And.intro (fun (h : false = true) => Bool.noConfusion h) (fun (_ : false = false) => ?_)
    refine And.intro (show l.length ≤ 100000 ∧ t.length ≤ 100000 ∧ DivFit (nv t) from ⟨by omega, by omega, p4⟩) ?_
    repeat first | refine And.intro rfl ?_ | refine Or.inl (And.intro rfl ?_) | refine Or.inr (And.intro rfl ?_) | refine And.intro (fun (_ : true = true) => ?_) (fun (h : true = false) => Bool.noConfusion h) | refine And.intro (fun (h : false = true) => Bool.noConfusion h) (fun (_ : false = false) => ?_)
    refine And.intro (show l.length ≤ 100000 ∧ (dg (Nat.gcd (nv l) (nv t))).length ≤ 100000 ∧ DivFit (nv (dg (Nat.gcd (nv l) (nv t)))) from ⟨by omega, hgl, by rw [nv_dg]; exact p4.mono hg⟩) ?_
    repeat first | refine And.intro rfl ?_ | refine Or.inl (And.intro rfl ?_) | refine Or.inr (And.intro rfl ?_) | refine And.intro (fun (_ : true = true) => ?_) (fun (h : true = false) => Bool.noConfusion h) | refine And.intro (fun (h : false = true) => Bool.noConfusion h) (fun (_ : false = false) => ?_)
    refine And.intro (show t.length ≤ 100000 ∧ (dg (Nat.gcd (nv l) (nv t))).length ≤ 100000 ∧ DivFit (nv (dg (Nat.gcd (nv l) (nv t)))) from ⟨by omega, hgl, by rw [nv_dg]; exact p4.mono hg⟩) ?_
    repeat first | refine And.intro rfl ?_ | refine Or.inl (And.intro rfl ?_) | refine Or.inr (And.intro rfl ?_) | refine And.intro (fun (_ : true = true) => ?_) (fun (h : true = false) => Bool.noConfusion h) | refine And.intro (fun (h : false = true) => Bool.noConfusion h) (fun (_ : false = false) => ?_)
    refine And.intro hql ?_
    repeat first | refine And.intro rfl ?_ | refine Or.inl (And.intro rfl ?_) | refine Or.inr (And.intro rfl ?_) | refine And.intro (fun (_ : true = true) => ?_) (fun (h : true = false) => Bool.noConfusion h) | refine And.intro (fun (h : false = true) => Bool.noConfusion h) (fun (_ : false = false) => ?_)
    show Res.r (.agg [.val (.bool (decide (sg s (nv (dg (nv l / nv (dg (Nat.gcd (nv l) (nv t)))))) < 0))), .nat (dg (sg s (nv (dg (nv l / nv (dg (Nat.gcd (nv l) (nv t))))))).natAbs), .nat (dg (nv t / nv (dg (Nat.gcd (nv l) (nv t)))))]) = Res.r (CQ (rq s l t))
    unfold CQ rq
    rw [cq_mk s (nv l) (nv t) p3, sg_abs, nv_dg, nv_dg]
  · cases h

end Go.Gm
