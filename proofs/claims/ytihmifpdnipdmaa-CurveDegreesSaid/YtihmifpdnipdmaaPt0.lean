/-
  Points with whole coordinates, and whether two points are the same. Plain theorems; no condition.
-/
import Derived.Test.YtihmifpdnipdmaaRatC
set_option linter.all false
namespace Go.Gm
open Go.Proofs

/-! Points. -/
theorem resB {a b : Bool} (h : a = b) : Res.r (.val (.bool a)) = Res.r (.val (.bool b)) := by rw [h]
theorem resSl {n : Nat} {l l' : List (List BV)} (h : l = l') : Res.r (.one (.sl n l)) = Res.r (.one (.sl n l')) := by rw [h]
def sTrue0 : List RV → Option (Prop × Res)
  | [] => some (True, .r (.val (.bool true)))
  | _ => none



theorem mk_one (x : Int) : mkRat (sg (!(decide (x < 0) == decide ((1 : Int) < 0))) x.natAbs) (1 : Int).natAbs = (x : Rat) := by
  have e : (!(decide (x < 0) == decide ((1 : Int) < 0))) = decide (x < 0) := by cases h : decide (x < 0) <;> rfl
  rw [e, sg_self]
  show mkRat x 1 = _
  rw [Rat.mkRat_one]

abbrev InR (x : Int) : Prop := -9223372036854775808 ≤ x ∧ x < 9223372036854775808

theorem resPt {x x' y y' : Rat} (h : x = x') (h' : y = y') : Res.r (.agg (cq x ++ cq y)) = Res.r (.agg (cq x' ++ cq y')) := by rw [h, h']

def sPtOf : List RV → Option (Prop × Res)
  | [.one (.b (.val (.int .i64 x))), .one (.b (.val (.int .i64 y)))] => some (InR x ∧ InR y, .r (.agg (cq (x : Rat) ++ cq (y : Rat))))
  | _ => none

theorem fit_one : DivFit (1 : Int).natAbs := trivial

def TP0 : Table := [(51, sRatOf), (102, sRatNorm), (89, sRatNeg), (60, sRatCmp)]
theorem TP0_ok : TabOk TP0 := TabOk.cons ok_ratOf (TabOk.cons ok_ratNorm (TabOk.cons ok_ratNeg (TabOk.cons ok_ratCmp TabOk.nil)))

theorem ok_ptOf : Ok1 59 sPtOf := by
  refine ok_of TP0_ok Try.func59 rfl (by kernel_rfl) ?_
  intro xs pre res h hp hlim
  unfold sPtOf at h
  split at h
  · rename_i x y
    cases h
    obtain ⟨⟨h1, h2⟩, h3, h4⟩ := hp
    refine And.intro (Nat.le_of_ble_eq_true rfl) ?_
    repeat first | refine And.intro rfl ?_ | refine Or.inl (And.intro rfl ?_) | refine Or.inr (And.intro rfl ?_) | refine And.intro (fun (_ : true = true) => ?_) (fun (h : true = false) => Bool.noConfusion h) | refine And.intro (fun (h : false = true) => Bool.noConfusion h) (fun (_ : false = false) => ?_)
    refine And.intro (show -9223372036854775808 ≤ x ∧ x < 9223372036854775808 ∧ -9223372036854775808 ≤ (1 : Int) ∧ (1 : Int) < 9223372036854775808 ∧ (1 : Int) ≠ 0 ∧ DivFit (1 : Int).natAbs from ⟨h1, h2, by decide, by decide, by decide, fit_one⟩) ?_
    repeat first | refine And.intro rfl ?_ | refine Or.inl (And.intro rfl ?_) | refine Or.inr (And.intro rfl ?_) | refine And.intro (fun (_ : true = true) => ?_) (fun (h : true = false) => Bool.noConfusion h) | refine And.intro (fun (h : false = true) => Bool.noConfusion h) (fun (_ : false = false) => ?_)
    refine And.intro (show -9223372036854775808 ≤ y ∧ y < 9223372036854775808 ∧ -9223372036854775808 ≤ (1 : Int) ∧ (1 : Int) < 9223372036854775808 ∧ (1 : Int) ≠ 0 ∧ DivFit (1 : Int).natAbs from ⟨h3, h4, by decide, by decide, by decide, fit_one⟩) ?_
    repeat first | refine And.intro rfl ?_ | refine Or.inl (And.intro rfl ?_) | refine Or.inr (And.intro rfl ?_) | refine And.intro (fun (_ : true = true) => ?_) (fun (h : true = false) => Bool.noConfusion h) | refine And.intro (fun (h : false = true) => Bool.noConfusion h) (fun (_ : false = false) => ?_)
    exact resPt (mk_one x) (mk_one y)
  · cases h

theorem cmpQ_zero (a b : Rat) : (cmpQ a b == 0) = decide (a = b) := by
  unfold cmpQ
  by_cases h1 : a < b
  · have : a ≠ b := fun h => by rw [h] at h1; exact Rat.lt_irrefl h1
    simp [h1, this]
  · by_cases h2 : b < a
    · have : a ≠ b := fun h => by rw [h] at h2; exact Rat.lt_irrefl h2
      rw [if_neg h1, if_pos h2]
      simp [this]
    · have : a = b := Rat.le_antisymm (Rat.not_lt.1 h2) (Rat.not_lt.1 h1)
      simp [this]

def sPtSame : List RV → Option (Prop × Res)
  | [.agg [.b (.val (.bool s)), .b (.nat l), .b (.nat t), .b (.val (.bool s2)), .b (.nat l2), .b (.nat t2)], .agg [.b (.val (.bool s')), .b (.nat l'), .b (.nat t'), .b (.val (.bool s2')), .b (.nat l2'), .b (.nat t2')]] =>
    some ((l.length ≤ 40000 ∧ t.length ≤ 40000 ∧ l'.length ≤ 40000 ∧ t'.length ≤ 40000) ∧ (l2.length ≤ 40000 ∧ t2.length ≤ 40000 ∧ l2'.length ≤ 40000 ∧ t2'.length ≤ 40000), .r (.val (.bool (decide (rq s l t = rq s' l' t' ∧ rq s2 l2 t2 = rq s2' l2' t2')))))
  | _ => none

theorem ok_ptSame : Ok1 55 sPtSame := by
  refine ok_of TP0_ok Try.func55 rfl (by kernel_rfl) ?_
  intro xs pre res h hp hlim
  unfold sPtSame at h
  split at h
  · rename_i s l t s2 l2 t2 s' l' t' s2' l2' t2'
    cases h
    obtain ⟨h1, h2⟩ := hp
    refine And.intro (Nat.le_of_ble_eq_true rfl) ?_
    repeat first | refine And.intro rfl ?_ | refine Or.inl (And.intro rfl ?_) | refine Or.inr (And.intro rfl ?_) | refine And.intro (fun (_ : true = true) => ?_) (fun (h : true = false) => Bool.noConfusion h) | refine And.intro (fun (h : false = true) => Bool.noConfusion h) (fun (_ : false = false) => ?_)
    refine And.intro h1 ?_
    repeat first | refine And.intro rfl ?_ | refine Or.inl (And.intro rfl ?_) | refine Or.inr (And.intro rfl ?_) | refine And.intro (fun (_ : true = true) => ?_) (fun (h : true = false) => Bool.noConfusion h) | refine And.intro (fun (h : false = true) => Bool.noConfusion h) (fun (_ : false = false) => ?_)
    by_cases hx : rq s l t = rq s' l' t'
    · refine Or.inl (And.intro (show (cmpQ (rq s l t) (rq s' l' t') == 0) = true by rw [cmpQ_zero]; exact decide_eq_true hx) ?_)
      repeat first | refine And.intro rfl ?_ | refine Or.inl (And.intro rfl ?_) | refine Or.inr (And.intro rfl ?_) | refine And.intro (fun (_ : true = true) => ?_) (fun (h : true = false) => Bool.noConfusion h) | refine And.intro (fun (h : false = true) => Bool.noConfusion h) (fun (_ : false = false) => ?_)
      refine And.intro h2 ?_
      repeat first | refine And.intro rfl ?_ | refine Or.inl (And.intro rfl ?_) | refine Or.inr (And.intro rfl ?_) | refine And.intro (fun (_ : true = true) => ?_) (fun (h : true = false) => Bool.noConfusion h) | refine And.intro (fun (h : false = true) => Bool.noConfusion h) (fun (_ : false = false) => ?_)
      refine resB ?_
      show (cmpQ (rq s2 l2 t2) (rq s2' l2' t2') == 0) = _
      rw [cmpQ_zero]
      simp [hx]
    · refine Or.inr (And.intro (show (cmpQ (rq s l t) (rq s' l' t') == 0) = false by rw [cmpQ_zero]; exact decide_eq_false hx) ?_)
      repeat first | refine And.intro rfl ?_ | refine Or.inl (And.intro rfl ?_) | refine Or.inr (And.intro rfl ?_) | refine And.intro (fun (_ : true = true) => ?_) (fun (h : true = false) => Bool.noConfusion h) | refine And.intro (fun (h : false = true) => Bool.noConfusion h) (fun (_ : false = false) => ?_)
      exact resB (by simp [hx])
  · cases h

theorem whole_sz {x : Int} (h : InR x) : Sz 2 (x : Rat) := by
  have e : ((x : Rat)) = mkRat x 1 := by rw [Rat.mkRat_one]
  rw [e]
  refine Sz.mk ?_ ?_ (by decide)
  · have : B ^ 2 = 18446744073709551616 := by decide
    rw [this]
    omega
  · decide
theorem whole_pre (x : Int) (h : InR x) : (dg (x : Rat).num.natAbs).length ≤ 70000 ∧ (dg (x : Rat).den).length ≤ 70000 ∧ DivFit (nv (dg (x : Rat).den)) :=
  ⟨(whole_sz h).lenN (by decide), (whole_sz h).lenD (by decide), by rw [nv_dg, Rat.den_intCast]; exact fit_one⟩

/-- A ratio's cells read again. -/
abbrev rqc (q : Rat) : Rat := rq (decide (q.num < 0)) (dg q.num.natAbs) (dg q.den)


end Go.Gm
