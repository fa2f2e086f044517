/-
  The ratios of the program, part C: Add, Sub, Mul, Div. Plain theorems; no condition.
-/
import Derived.Test.YtihmifpdnipdmaaSz
set_option linter.all false
namespace Go.Gm
open Go.Proofs

theorem mk_add {a c : Int} {b d : Nat} (hb : 0 < b) (hd : 0 < d) : mkRat a b + mkRat c d = mkRat (a * d + c * b) (b * d) := Rat.mkRat_add_mkRat a c (by omega) (by omega)
theorem mk_mul (a c : Int) (b d : Nat) : mkRat a b * mkRat c d = mkRat (a * c) (b * d) := Rat.mkRat_mul_mkRat a c b d
theorem mk_zero {a : Int} {b : Nat} (hb : 0 < b) : mkRat a b = 0 ↔ a = 0 := Rat.mkRat_eq_zero (by omega)
theorem sg_zero {s : Bool} {n : Nat} : sg s n = 0 ↔ n = 0 := by cases s <;> simp [sg]
theorem sg_mulN (s : Bool) (x y : Nat) : sg s (x * y) = sg s x * (y : Int) := by cases s <;> simp [sg, Int.neg_mul]
theorem mk_div {s s' : Bool} {x y b d : Nat} (hy : 0 < y) (hb : 0 < b) (hd : 0 < d) : mkRat (sg (!(s == s')) (x * d)) (b * y) = mkRat (sg s x) b / mkRat (sg s' y) d := by
  have hr : mkRat (sg s' y) d ≠ 0 := fun h => by
    rw [mk_zero hd, sg_zero] at h
    omega
  have h : mkRat (sg (!(s == s')) (x * d)) (b * y) * mkRat (sg s' y) d = mkRat (sg s x) b := by
    rw [mk_mul, Rat.mkRat_eq_iff (Nat.mul_ne_zero (Nat.mul_ne_zero (by omega) (by omega)) (by omega)) (by omega)]
    cases s <;> cases s' <;> simp [sg, Int.neg_mul, Int.mul_neg] <;> grind
  grind

theorem len_addI {a c : Int} {n : Nat} (h1 : (dg a.natAbs).length ≤ n) (h2 : (dg c.natAbs).length ≤ n) : (dg (a + c).natAbs).length ≤ n + 1 :=
  Nat.le_trans (dg_len_mono (Int.natAbs_add_le a c)) (len_add (lt_dg h1) (lt_dg h2))
theorem len_mulT {t t' : List Nat} {n m k : Nat} (h : Lim t) (hn : t.length ≤ n) (h' : Lim t') (hm : t'.length ≤ m) (h1 : 1 ≤ n) (h2 : 1 ≤ m) (hk : n + m ≤ k) : (dg (nv (vT t) * nv (vT t'))).length ≤ k :=
  Nat.le_trans (len_mulL (vT_lim h) (vT_len hn h1) (vT_lim h') (vT_len hm h2)) hk
theorem posT (t t' : List Nat) : 0 < nv (dg (nv (vT t) * nv (vT t'))) := by rw [nv_dg]; exact Nat.mul_pos (vT_pos t) (vT_pos t')

def TQ3 : Table := [(134, sMul), (89, sRatNeg)] ++ TQ2
theorem TQ3_ok : TabOk TQ3 := TabOk.append (TabOk.cons ok_natMul (TabOk.cons ok_ratNeg TabOk.nil)) TQ2_ok

def sRatAdd : List RV → Option (Prop × Res)
  | [.agg [.b (.val (.bool s)), .b (.nat l), .b (.nat t)], .agg [.b (.val (.bool s')), .b (.nat l'), .b (.nat t')]] => some (l.length ≤ 40000 ∧ t.length ≤ 40000 ∧ l'.length ≤ 40000 ∧ t'.length ≤ 40000, .r (CQ (rq s l t + rq s' l' t')))
  | _ => none
def sRatSub : List RV → Option (Prop × Res)
  | [.agg [.b (.val (.bool s)), .b (.nat l), .b (.nat t)], .agg [.b (.val (.bool s')), .b (.nat l'), .b (.nat t')]] => some (l.length ≤ 40000 ∧ t.length ≤ 40000 ∧ l'.length ≤ 39999 ∧ t'.length ≤ 39999, .r (CQ (rq s l t - rq s' l' t')))
  | _ => none
def sRatMul : List RV → Option (Prop × Res)
  | [.agg [.b (.val (.bool s)), .b (.nat l), .b (.nat t)], .agg [.b (.val (.bool s')), .b (.nat l'), .b (.nat t')]] => some (l.length ≤ 40000 ∧ t.length ≤ 40000 ∧ l'.length ≤ 40000 ∧ t'.length ≤ 40000, .r (CQ (rq s l t * rq s' l' t')))
  | _ => none

set_option maxHeartbeats 1000000 in
theorem ok_ratAdd : Ok1 90 sRatAdd := by
  refine ok_of TQ3_ok Try.func90 rfl (by kernel_rfl) ?_
  intro xs pre res h hp hlim
  unfold sRatAdd at h
  split at h
  · rename_i s l t s' l' t'
    cases h
    have hl : Lim l := hlim.1.2.1
    have ht : Lim t := hlim.1.2.2.1
    have hl' : Lim l' := hlim.2.1.2.1
    have ht' : Lim t' := hlim.2.1.2.2.1
    obtain ⟨p1, p2, p3, p4⟩ := hp
    have q1 : (dg (sg (vS s t) (nv (vL l t)) * sg false (nv (vT t'))).natAbs).length ≤ 80000 := by
      rw [Int.natAbs_mul, sg_abs, sg_abs]; exact len_mulL (vL_lim hl) (vL_len p1) (vT_lim ht') (vT_len p4 (by decide))
    have q2 : (dg (sg (vS s' t') (nv (vL l' t')) * sg false (nv (vT t))).natAbs).length ≤ 80000 := by
      rw [Int.natAbs_mul, sg_abs, sg_abs]; exact len_mulL (vL_lim hl') (vL_len p3) (vT_lim ht) (vT_len p2 (by decide))
    refine And.intro (Nat.le_of_ble_eq_true rfl) ?_
    repeat first | refine And.intro rfl ?_ | refine Or.inl (And.intro rfl ?_) | refine Or.inr (And.intro rfl ?_) | refine And.intro (fun (_ : true = true) => ?_) (fun (h : true = false) => Bool.noConfusion h) | refine And.intro (fun (h : false = true) => Bool.noConfusion h) (fun (_ : false = false) => ?_)
    refine And.intro (show t.length ≤ 1000000 from Nat.le_trans p2 (by decide)) ?_
    repeat first | refine And.intro rfl ?_ | refine Or.inl (And.intro rfl ?_) | refine Or.inr (And.intro rfl ?_) | refine And.intro (fun (_ : true = true) => ?_) (fun (h : true = false) => Bool.noConfusion h) | refine And.intro (fun (h : false = true) => Bool.noConfusion h) (fun (_ : false = false) => ?_)
    refine And.intro (show t'.length ≤ 1000000 from Nat.le_trans p4 (by decide)) ?_
    repeat first | refine And.intro rfl ?_ | refine Or.inl (And.intro rfl ?_) | refine Or.inr (And.intro rfl ?_) | refine And.intro (fun (_ : true = true) => ?_) (fun (h : true = false) => Bool.noConfusion h) | refine And.intro (fun (h : false = true) => Bool.noConfusion h) (fun (_ : false = false) => ?_)
    refine And.intro trivial ?_
    repeat first | refine And.intro rfl ?_ | refine Or.inl (And.intro rfl ?_) | refine Or.inr (And.intro rfl ?_) | refine And.intro (fun (_ : true = true) => ?_) (fun (h : true = false) => Bool.noConfusion h) | refine And.intro (fun (h : false = true) => Bool.noConfusion h) (fun (_ : false = false) => ?_)
    refine And.intro (show (vL l t).length ≤ 40000 ∧ (vT t').length ≤ 40000 from ⟨vL_len p1, vT_len p4 (by decide)⟩) ?_
    repeat first | refine And.intro rfl ?_ | refine Or.inl (And.intro rfl ?_) | refine Or.inr (And.intro rfl ?_) | refine And.intro (fun (_ : true = true) => ?_) (fun (h : true = false) => Bool.noConfusion h) | refine And.intro (fun (h : false = true) => Bool.noConfusion h) (fun (_ : false = false) => ?_)
    refine And.intro trivial ?_
    repeat first | refine And.intro rfl ?_ | refine Or.inl (And.intro rfl ?_) | refine Or.inr (And.intro rfl ?_) | refine And.intro (fun (_ : true = true) => ?_) (fun (h : true = false) => Bool.noConfusion h) | refine And.intro (fun (h : false = true) => Bool.noConfusion h) (fun (_ : false = false) => ?_)
    refine And.intro (show (vL l' t').length ≤ 40000 ∧ (vT t).length ≤ 40000 from ⟨vL_len p3, vT_len p2 (by decide)⟩) ?_
    repeat first | refine And.intro rfl ?_ | refine Or.inl (And.intro rfl ?_) | refine Or.inr (And.intro rfl ?_) | refine And.intro (fun (_ : true = true) => ?_) (fun (h : true = false) => Bool.noConfusion h) | refine And.intro (fun (h : false = true) => Bool.noConfusion h) (fun (_ : false = false) => ?_)
    refine And.intro (show (dg (sg (vS s t) (nv (vL l t)) * sg false (nv (vT t'))).natAbs).length ≤ 90000 ∧ (dg (sg (vS s' t') (nv (vL l' t')) * sg false (nv (vT t))).natAbs).length ≤ 90000 from ⟨by omega, by omega⟩) ?_
    rw [sg_CI, sg_CI]
    repeat first | refine And.intro rfl ?_ | refine Or.inl (And.intro rfl ?_) | refine Or.inr (And.intro rfl ?_) | refine And.intro (fun (_ : true = true) => ?_) (fun (h : true = false) => Bool.noConfusion h) | refine And.intro (fun (h : false = true) => Bool.noConfusion h) (fun (_ : false = false) => ?_)
    refine And.intro (show (vT t).length ≤ 100000 ∧ (vT t').length ≤ 100000 from ⟨Nat.le_trans (vT_len p2 (by decide)) (by decide), Nat.le_trans (vT_len p4 (by decide)) (by decide)⟩) ?_
    repeat first | refine And.intro rfl ?_ | refine Or.inl (And.intro rfl ?_) | refine Or.inr (And.intro rfl ?_) | refine And.intro (fun (_ : true = true) => ?_) (fun (h : true = false) => Bool.noConfusion h) | refine And.intro (fun (h : false = true) => Bool.noConfusion h) (fun (_ : false = false) => ?_)
    refine And.intro (show (dg (sg (vS s t) (nv (vL l t)) * sg false (nv (vT t')) + sg (vS s' t') (nv (vL l' t')) * sg false (nv (vT t))).natAbs).length ≤ 90000 ∧ (dg (nv (vT t) * nv (vT t'))).length ≤ 90000 ∧ 0 < nv (dg (nv (vT t) * nv (vT t'))) ∧ DivFit _ from ⟨Nat.le_trans (len_addI q1 q2) (by decide), len_mulT ht p2 ht' p4 (by decide) (by decide) (by decide), posT t t', trivial⟩) ?_
    repeat first | refine And.intro rfl ?_ | refine Or.inl (And.intro rfl ?_) | refine Or.inr (And.intro rfl ?_) | refine And.intro (fun (_ : true = true) => ?_) (fun (h : true = false) => Bool.noConfusion h) | refine And.intro (fun (h : false = true) => Bool.noConfusion h) (fun (_ : false = false) => ?_)
    refine resCQ ?_
    rw [← rq_value s l t, ← rq_value s' l' t']
    show mkRat (sg (decide _) (nv (dg _))) (nv (dg _)) = mkRat (sg (vS s t) (nv (vL l t))) (nv (vT t)) + mkRat (sg (vS s' t') (nv (vL l' t'))) (nv (vT t'))
    rw [sg_CI, nv_dg, mk_add (vT_pos t) (vT_pos t')]
    rfl
  · cases h

def TQ4 : Table := (90, sRatAdd) :: TQ3
theorem TQ4_ok : TabOk TQ4 := TabOk.cons ok_ratAdd TQ3_ok

theorem ok_ratSub : Ok1 54 sRatSub := by
  refine ok_of TQ4_ok Try.func54 rfl (by kernel_rfl) ?_
  intro xs pre res h hp hlim
  unfold sRatSub at h
  split at h
  · rename_i s l t s' l' t'
    cases h
    have hl : Lim l := hlim.1.2.1
    have ht : Lim t := hlim.1.2.2.1
    have hl' : Lim l' := hlim.2.1.2.1
    have ht' : Lim t' := hlim.2.1.2.2.1
    obtain ⟨p1, p2, p3, p4⟩ := hp
    have hz : Sz 40000 (-(rq s' l' t')) := (Sz.rq hl' ht' p3 p4).neg
    refine And.intro (Nat.le_of_ble_eq_true rfl) ?_
    repeat first | refine And.intro rfl ?_ | refine Or.inl (And.intro rfl ?_) | refine Or.inr (And.intro rfl ?_) | refine And.intro (fun (_ : true = true) => ?_) (fun (h : true = false) => Bool.noConfusion h) | refine And.intro (fun (h : false = true) => Bool.noConfusion h) (fun (_ : false = false) => ?_)
    refine And.intro (show l'.length ≤ 80000 ∧ t'.length ≤ 80000 ∧ DivFit (nv t') from ⟨by omega, by omega, trivial⟩) ?_
    repeat first | refine And.intro rfl ?_ | refine Or.inl (And.intro rfl ?_) | refine Or.inr (And.intro rfl ?_) | refine And.intro (fun (_ : true = true) => ?_) (fun (h : true = false) => Bool.noConfusion h) | refine And.intro (fun (h : false = true) => Bool.noConfusion h) (fun (_ : false = false) => ?_)
    refine And.intro (show l.length ≤ 40000 ∧ t.length ≤ 40000 ∧ (dg (-(rq s' l' t')).num.natAbs).length ≤ 40000 ∧ (dg (-(rq s' l' t')).den).length ≤ 40000 from ⟨p1, p2, hz.lenN (by decide), hz.lenD (by decide)⟩) ?_
    repeat first | refine And.intro rfl ?_ | refine Or.inl (And.intro rfl ?_) | refine Or.inr (And.intro rfl ?_) | refine And.intro (fun (_ : true = true) => ?_) (fun (h : true = false) => Bool.noConfusion h) | refine And.intro (fun (h : false = true) => Bool.noConfusion h) (fun (_ : false = false) => ?_)
    refine resCQ ?_
    rw [rq_cq, Rat.sub_eq_add_neg]
  · cases h

set_option maxHeartbeats 1000000 in
theorem ok_ratMul : Ok1 91 sRatMul := by
  refine ok_of TQ3_ok Try.func91 rfl (by kernel_rfl) ?_
  intro xs pre res h hp hlim
  unfold sRatMul at h
  split at h
  · rename_i s l t s' l' t'
    cases h
    have hl : Lim l := hlim.1.2.1
    have ht : Lim t := hlim.1.2.2.1
    have hl' : Lim l' := hlim.2.1.2.1
    have ht' : Lim t' := hlim.2.1.2.2.1
    obtain ⟨p1, p2, p3, p4⟩ := hp
    have q1 : (dg (sg (vS s t) (nv (vL l t)) * sg (vS s' t') (nv (vL l' t'))).natAbs).length ≤ 80000 := by
      rw [Int.natAbs_mul, sg_abs, sg_abs]; exact len_mulL (vL_lim hl) (vL_len p1) (vL_lim hl') (vL_len p3)
    refine And.intro (Nat.le_of_ble_eq_true rfl) ?_
    repeat first | refine And.intro rfl ?_ | refine Or.inl (And.intro rfl ?_) | refine Or.inr (And.intro rfl ?_) | refine And.intro (fun (_ : true = true) => ?_) (fun (h : true = false) => Bool.noConfusion h) | refine And.intro (fun (h : false = true) => Bool.noConfusion h) (fun (_ : false = false) => ?_)
    refine And.intro (show t.length ≤ 1000000 from Nat.le_trans p2 (by decide)) ?_
    repeat first | refine And.intro rfl ?_ | refine Or.inl (And.intro rfl ?_) | refine Or.inr (And.intro rfl ?_) | refine And.intro (fun (_ : true = true) => ?_) (fun (h : true = false) => Bool.noConfusion h) | refine And.intro (fun (h : false = true) => Bool.noConfusion h) (fun (_ : false = false) => ?_)
    refine And.intro (show t'.length ≤ 1000000 from Nat.le_trans p4 (by decide)) ?_
    repeat first | refine And.intro rfl ?_ | refine Or.inl (And.intro rfl ?_) | refine Or.inr (And.intro rfl ?_) | refine And.intro (fun (_ : true = true) => ?_) (fun (h : true = false) => Bool.noConfusion h) | refine And.intro (fun (h : false = true) => Bool.noConfusion h) (fun (_ : false = false) => ?_)
    refine And.intro (show (vL l t).length ≤ 40000 ∧ (vL l' t').length ≤ 40000 from ⟨vL_len p1, vL_len p3⟩) ?_
    repeat first | refine And.intro rfl ?_ | refine Or.inl (And.intro rfl ?_) | refine Or.inr (And.intro rfl ?_) | refine And.intro (fun (_ : true = true) => ?_) (fun (h : true = false) => Bool.noConfusion h) | refine And.intro (fun (h : false = true) => Bool.noConfusion h) (fun (_ : false = false) => ?_)
    refine And.intro (show (vT t).length ≤ 100000 ∧ (vT t').length ≤ 100000 from ⟨Nat.le_trans (vT_len p2 (by decide)) (by decide), Nat.le_trans (vT_len p4 (by decide)) (by decide)⟩) ?_
    repeat first | refine And.intro rfl ?_ | refine Or.inl (And.intro rfl ?_) | refine Or.inr (And.intro rfl ?_) | refine And.intro (fun (_ : true = true) => ?_) (fun (h : true = false) => Bool.noConfusion h) | refine And.intro (fun (h : false = true) => Bool.noConfusion h) (fun (_ : false = false) => ?_)
    refine And.intro (show (dg (sg (vS s t) (nv (vL l t)) * sg (vS s' t') (nv (vL l' t'))).natAbs).length ≤ 90000 ∧ (dg (nv (vT t) * nv (vT t'))).length ≤ 90000 ∧ 0 < nv (dg (nv (vT t) * nv (vT t'))) ∧ DivFit _ from ⟨Nat.le_trans q1 (by decide), len_mulT ht p2 ht' p4 (by decide) (by decide) (by decide), posT t t', trivial⟩) ?_
    repeat first | refine And.intro rfl ?_ | refine Or.inl (And.intro rfl ?_) | refine Or.inr (And.intro rfl ?_) | refine And.intro (fun (_ : true = true) => ?_) (fun (h : true = false) => Bool.noConfusion h) | refine And.intro (fun (h : false = true) => Bool.noConfusion h) (fun (_ : false = false) => ?_)
    refine resCQ ?_
    rw [← rq_value s l t, ← rq_value s' l' t']
    show mkRat (sg (decide _) (nv (dg _))) (nv (dg _)) = mkRat (sg (vS s t) (nv (vL l t))) (nv (vT t)) * mkRat (sg (vS s' t') (nv (vL l' t'))) (nv (vT t'))
    rw [sg_CI, nv_dg, mk_mul]
  · cases h

/-- The cells of a quotient: all empty where there is none. -/
abbrev dq (z : Bool) (q : Rat) : List CV := [.val (.bool (cond z false (decide (q.num < 0)))), .nat (cond z [] (dg q.num.natAbs)), .nat (cond z [] (dg q.den))]

def sRatDiv : List RV → Option (Prop × Res)
  | [.agg [.b (.val (.bool s)), .b (.nat l), .b (.nat t)], .agg [.b (.val (.bool s')), .b (.nat l'), .b (.nat t')]] => some (l.length ≤ 40000 ∧ t.length ≤ 40000 ∧ l'.length ≤ 40000 ∧ t'.length ≤ 40000, .t [.agg (dq (decide (rq s' l' t' = 0)) (rq s l t / rq s' l' t')), .val (.bool (!decide (rq s' l' t' = 0)))])
  | _ => none

theorem rq_zero (s : Bool) (l t : List Nat) : decide (rq s l t = 0) = Nat.beq (nv (vL l t)) 0 := by
  rw [← rq_value s l t]
  unfold rq
  cases h : Nat.beq (nv (vL l t)) 0 with
  | true => exact decide_eq_true ((mk_zero (vT_pos t)).2 (sg_zero.2 (Nat.eq_of_beq_eq_true h)))
  | false => exact decide_eq_false (fun h' => by
      have := sg_zero.1 ((mk_zero (vT_pos t)).1 h')
      rw [this] at h
      cases h)

set_option maxHeartbeats 1000000 in
theorem ok_ratDiv : Ok1 126 sRatDiv := by
  refine ok_of TQ3_ok Try.func126 rfl (by kernel_rfl) ?_
  intro xs pre res h hp hlim
  unfold sRatDiv at h
  split at h
  · rename_i s l t s' l' t'
    cases h
    have hl : Lim l := hlim.1.2.1
    have ht : Lim t := hlim.1.2.2.1
    have hl' : Lim l' := hlim.2.1.2.1
    have ht' : Lim t' := hlim.2.1.2.2.1
    obtain ⟨p1, p2, p3, p4⟩ := hp
    rw [rq_zero]
    refine And.intro (Nat.le_of_ble_eq_true rfl) ?_
    repeat first | refine And.intro rfl ?_ | refine Or.inl (And.intro rfl ?_) | refine Or.inr (And.intro rfl ?_) | refine And.intro (fun (_ : true = true) => ?_) (fun (h : true = false) => Bool.noConfusion h) | refine And.intro (fun (h : false = true) => Bool.noConfusion h) (fun (_ : false = false) => ?_)
    refine And.intro (show t.length ≤ 1000000 from Nat.le_trans p2 (by decide)) ?_
    repeat first | refine And.intro rfl ?_ | refine Or.inl (And.intro rfl ?_) | refine Or.inr (And.intro rfl ?_) | refine And.intro (fun (_ : true = true) => ?_) (fun (h : true = false) => Bool.noConfusion h) | refine And.intro (fun (h : false = true) => Bool.noConfusion h) (fun (_ : false = false) => ?_)
    refine And.intro (show t'.length ≤ 1000000 from Nat.le_trans p4 (by decide)) ?_
    repeat first | refine And.intro rfl ?_ | refine Or.inl (And.intro rfl ?_) | refine Or.inr (And.intro rfl ?_) | refine And.intro (fun (_ : true = true) => ?_) (fun (h : true = false) => Bool.noConfusion h) | refine And.intro (fun (h : false = true) => Bool.noConfusion h) (fun (_ : false = false) => ?_)
    refine And.intro (show (vL l' t').length ≤ 1000000 from vL_len (by omega)) ?_
    repeat first | refine And.intro rfl ?_ | refine Or.inl (And.intro rfl ?_) | refine Or.inr (And.intro rfl ?_) | refine And.intro (fun (_ : true = true) => ?_) (fun (h : true = false) => Bool.noConfusion h) | refine And.intro (fun (h : false = true) => Bool.noConfusion h) (fun (_ : false = false) => ?_)
    refine And.intro (fun hc => ?_) (fun hc => ?_)
    · rw [hc]
      repeat first | refine And.intro rfl ?_ | refine Or.inl (And.intro rfl ?_) | refine Or.inr (And.intro rfl ?_) | refine And.intro (fun (_ : true = true) => ?_) (fun (h : true = false) => Bool.noConfusion h) | refine And.intro (fun (h : false = true) => Bool.noConfusion h) (fun (_ : false = false) => ?_)
      rfl
    · rw [hc]
      have hpos : 0 < nv (vL l' t') := by
        rcases Nat.eq_zero_or_pos (nv (vL l' t')) with h | h
        · rw [h] at hc; cases hc
        · exact h
      repeat first | refine And.intro rfl ?_ | refine Or.inl (And.intro rfl ?_) | refine Or.inr (And.intro rfl ?_) | refine And.intro (fun (_ : true = true) => ?_) (fun (h : true = false) => Bool.noConfusion h) | refine And.intro (fun (h : false = true) => Bool.noConfusion h) (fun (_ : false = false) => ?_)
      refine And.intro (show (vL l t).length ≤ 100000 ∧ (vT t').length ≤ 100000 from ⟨vL_len (by omega), Nat.le_trans (vT_len p4 (by decide)) (by decide)⟩) ?_
      repeat first | refine And.intro rfl ?_ | refine Or.inl (And.intro rfl ?_) | refine Or.inr (And.intro rfl ?_) | refine And.intro (fun (_ : true = true) => ?_) (fun (h : true = false) => Bool.noConfusion h) | refine And.intro (fun (h : false = true) => Bool.noConfusion h) (fun (_ : false = false) => ?_)
      refine And.intro (show (vT t).length ≤ 100000 ∧ (vL l' t').length ≤ 100000 from ⟨Nat.le_trans (vT_len p2 (by decide)) (by decide), vL_len (by omega)⟩) ?_
      repeat first | refine And.intro rfl ?_ | refine Or.inl (And.intro rfl ?_) | refine Or.inr (And.intro rfl ?_) | refine And.intro (fun (_ : true = true) => ?_) (fun (h : true = false) => Bool.noConfusion h) | refine And.intro (fun (h : false = true) => Bool.noConfusion h) (fun (_ : false = false) => ?_)
      refine And.intro (show (dg (nv (vL l t) * nv (vT t'))).length ≤ 90000 ∧ (dg (nv (vT t) * nv (vL l' t'))).length ≤ 90000 ∧ 0 < nv (dg (nv (vT t) * nv (vL l' t'))) ∧ DivFit _ from ⟨Nat.le_trans (len_mulL (vL_lim hl) (vL_len p1) (vT_lim ht') (vT_len p4 (by decide))) (by decide), Nat.le_trans (len_mulL (vT_lim ht) (vT_len p2 (by decide)) (vL_lim hl') (vL_len p3)) (by decide), by rw [nv_dg]; exact Nat.mul_pos (vT_pos t) hpos, trivial⟩) ?_
      repeat first | refine And.intro rfl ?_ | refine Or.inl (And.intro rfl ?_) | refine Or.inr (And.intro rfl ?_) | refine And.intro (fun (_ : true = true) => ?_) (fun (h : true = false) => Bool.noConfusion h) | refine And.intro (fun (h : false = true) => Bool.noConfusion h) (fun (_ : false = false) => ?_)
      have e : rq (!(vS s t == vS s' t')) (dg (nv (vL l t) * nv (vT t'))) (dg (nv (vT t) * nv (vL l' t'))) = rq s l t / rq s' l' t' := by
        rw [← rq_value s l t, ← rq_value s' l' t']
        unfold rq
        rw [nv_dg, nv_dg]
        exact mk_div hpos (vT_pos t) (vT_pos t')
      rw [← e]
      rfl
  · cases h

end Go.Gm
