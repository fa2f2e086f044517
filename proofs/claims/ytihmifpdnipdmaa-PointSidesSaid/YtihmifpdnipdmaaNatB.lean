/-
  The natural numbers of the program, part B: Of, Norm, Cmp. Plain theorems; no condition.
-/
import Derived.Test.YtihmifpdnipdmaaNatA
set_option linter.all false
namespace Go.Gm
open Go.Proofs

def TB0 : Table := [(168, sTrim)]
theorem TB0_ok : TabOk TB0 := TabOk.cons ok_trim TabOk.nil

def sOf : List RV → Option (Prop × Res)
  | [.one (.b (.val (.int .u64 n)))] => some (0 ≤ n ∧ n < 18446744073709551616, .r (.one (.nat (dg n.toNat))))
  | _ => none

theorem ok_natOf : Ok1 148 sOf := by
  refine ok_of TB0_ok Try.func148 rfl (by kernel_rfl) ?_
  intro xs pre res h hp hlim
  unfold sOf at h
  split at h
  · rename_i n
    cases h
    obtain ⟨h0, h1⟩ := hp
    have e1 : IntKind.u32.wrap n = n % 4294967296 := wU32 n
    have e2 : IntKind.u32.wrap (n.fdiv (2 ^ min (32 : Int).toNat 64)) = n / 4294967296 := by
      rw [wU32, show (2 : Int) ^ min (32 : Int).toNat 64 = 4294967296 by decide, Int.fdiv_eq_ediv_of_nonneg _ (by decide)]
      omega
    refine And.intro (Nat.le_of_ble_eq_true rfl) ?_
    repeat first | refine And.intro rfl ?_ | refine Or.inl (And.intro rfl ?_) | refine Or.inr (And.intro rfl ?_) | refine And.intro (fun (_ : true = true) => ?_) (fun (h : true = false) => Bool.noConfusion h) | refine And.intro (fun (h : false = true) => Bool.noConfusion h) (fun (_ : false = false) => ?_)
    refine And.intro (show 0 ≤ (32 : Int) by decide) ?_
    repeat first | refine And.intro rfl ?_ | refine Or.inl (And.intro rfl ?_) | refine Or.inr (And.intro rfl ?_) | refine And.intro (fun (_ : true = true) => ?_) (fun (h : true = false) => Bool.noConfusion h) | refine And.intro (fun (h : false = true) => Bool.noConfusion h) (fun (_ : false = false) => ?_)
    refine And.intro (show (0 ≤ IntKind.u32.wrap n ∧ IntKind.u32.wrap n < 4294967296) ∧ (0 ≤ IntKind.u32.wrap (n.fdiv (2 ^ min (32 : Int).toNat 64)) ∧ IntKind.u32.wrap (n.fdiv (2 ^ min (32 : Int).toNat 64)) < 4294967296) ∧ True by rw [e1, e2]; exact ⟨⟨by omega, by omega⟩, ⟨by omega, by omega⟩, trivial⟩) ?_
    repeat first | refine And.intro rfl ?_ | refine Or.inl (And.intro rfl ?_) | refine Or.inr (And.intro rfl ?_) | refine And.intro (fun (_ : true = true) => ?_) (fun (h : true = false) => Bool.noConfusion h) | refine And.intro (fun (h : false = true) => Bool.noConfusion h) (fun (_ : false = false) => ?_)
    refine And.intro (show 2 ≤ 1000000 by decide) ?_
    refine resN (congrArg dg ?_)
    show nv [(IntKind.u32.wrap n).toNat, (IntKind.u32.wrap (n.fdiv (2 ^ min (32 : Int).toNat 64))).toNat] = n.toNat
    rw [e1, e2, nv_two, B_eq]
    omega
  · cases h

def sNorm : List RV → Option (Prop × Res)
  | [.one (.b (.nat l))] => some (l.length ≤ 1000000, .r (.one (.nat (dg (nv l)))))
  | _ => none

theorem ok_natNorm : Ok1 173 sNorm := by
  refine ok_of TB0_ok Try.func173 rfl (by kernel_rfl) ?_
  intro xs pre res h hp hlim
  unfold sNorm at h
  split at h
  · rename_i l
    cases h
    have hl : Lim l := hlim.1
    have hd := dg_nv_len hl
    refine And.intro (Nat.le_of_ble_eq_true rfl) ?_
    repeat first | refine And.intro rfl ?_ | refine Or.inl (And.intro rfl ?_) | refine Or.inr (And.intro rfl ?_) | refine And.intro (fun (_ : true = true) => ?_) (fun (h : true = false) => Bool.noConfusion h) | refine And.intro (fun (h : false = true) => Bool.noConfusion h) (fun (_ : false = false) => ?_)
    refine And.intro hp ?_
    repeat first | refine And.intro rfl ?_ | refine Or.inl (And.intro rfl ?_) | refine Or.inr (And.intro rfl ?_) | refine And.intro (fun (_ : true = true) => ?_) (fun (h : true = false) => Bool.noConfusion h) | refine And.intro (fun (h : false = true) => Bool.noConfusion h) (fun (_ : false = false) => ?_)
    refine And.intro (show 0 ≤ ((dg (nv l)).length : Int) ∧ ((dg (nv l)).length : Int) ≤ (dg (nv l)).length ∧ ((dg (nv l)).length : Int) ≤ 1000000 by omega) ?_
    repeat first | refine And.intro rfl ?_ | refine Or.inl (And.intro rfl ?_) | refine Or.inr (And.intro rfl ?_) | refine And.intro (fun (_ : true = true) => ?_) (fun (h : true = false) => Bool.noConfusion h) | refine And.intro (fun (h : false = true) => Bool.noConfusion h) (fun (_ : false = false) => ?_)
    refine And.intro (show (dg (nv l)).length = (List.replicate ((dg (nv l)).length : Int).toNat 0).length by simp) ?_
    repeat first | refine And.intro rfl ?_ | refine Or.inl (And.intro rfl ?_) | refine Or.inr (And.intro rfl ?_) | refine And.intro (fun (_ : true = true) => ?_) (fun (h : true = false) => Bool.noConfusion h) | refine And.intro (fun (h : false = true) => Bool.noConfusion h) (fun (_ : false = false) => ?_)
    rfl
  · cases h

/-- The sign of a comparison. -/
def cmpZ (a b : Int) : Int := if a < b then -1 else if b < a then 1 else 0

def sIsNaN (k : IntKind) : List RV → Option (Prop × Res)
  | [.one (.b (.val (.int k' _)))] => cond (decide (k = k')) (some (True, .r (.one (.val (.bool false))))) none
  | _ => none

theorem ok_isNaNi : Ok1 191 (sIsNaN .i64) := by
  refine ok_of TabOk.nil Try.func191 rfl (by kernel_rfl) ?_
  intro xs pre res h hp hlim
  unfold sIsNaN at h
  split at h
  · rename_i k' n
    by_cases hk : IntKind.i64 = k'
    · subst hk
      cases h
      refine And.intro (Nat.le_of_ble_eq_true rfl) ?_
      repeat first | refine And.intro rfl ?_ | refine Or.inl (And.intro rfl ?_) | refine Or.inr (And.intro rfl ?_) | refine And.intro (fun (_ : true = true) => ?_) (fun (h : true = false) => Bool.noConfusion h) | refine And.intro (fun (h : false = true) => Bool.noConfusion h) (fun (_ : false = false) => ?_)
      show Res.r (.one (.val (.bool (n != n)))) = _
      simp
    · simp [hk] at h
  · cases h

theorem ok_isNaNu : Ok1 192 (sIsNaN .u32) := by
  refine ok_of TabOk.nil Try.func192 rfl (by kernel_rfl) ?_
  intro xs pre res h hp hlim
  unfold sIsNaN at h
  split at h
  · rename_i k' n
    by_cases hk : IntKind.u32 = k'
    · subst hk
      cases h
      refine And.intro (Nat.le_of_ble_eq_true rfl) ?_
      repeat first | refine And.intro rfl ?_ | refine Or.inl (And.intro rfl ?_) | refine Or.inr (And.intro rfl ?_) | refine And.intro (fun (_ : true = true) => ?_) (fun (h : true = false) => Bool.noConfusion h) | refine And.intro (fun (h : false = true) => Bool.noConfusion h) (fun (_ : false = false) => ?_)
      show Res.r (.one (.val (.bool (n != n)))) = _
      simp
    · simp [hk] at h
  · cases h

def TB1 : Table := [(191, sIsNaN .i64), (192, sIsNaN .u32)]
theorem TB1_ok : TabOk TB1 := TabOk.cons ok_isNaNi (TabOk.cons ok_isNaNu TabOk.nil)

def sCmpI : List RV → Option (Prop × Res)
  | [.one (.b (.val (.int .i64 a))), .one (.b (.val (.int .i64 b)))] => some (True, .r (.one (.val (.int .i64 (cmpZ a b)))))
  | _ => none
def sCmpU : List RV → Option (Prop × Res)
  | [.one (.b (.val (.int .u32 a))), .one (.b (.val (.int .u32 b)))] => some (True, .r (.one (.val (.int .i64 (cmpZ a b)))))
  | _ => none

theorem resI {k : IntKind} {x y : Int} (h : x = y) : Res.r (.one (.val (.int k x))) = Res.r (.one (.val (.int k y))) := by rw [h]

theorem ok_cmpI : Ok1 179 sCmpI := by
  refine ok_of TB1_ok Try.func179 rfl (by kernel_rfl) ?_
  intro xs pre res h hp hlim
  unfold sCmpI at h
  split at h
  · rename_i a b
    cases h
    refine And.intro (Nat.le_of_ble_eq_true rfl) ?_
    repeat first | refine And.intro rfl ?_ | refine Or.inl (And.intro rfl ?_) | refine Or.inr (And.intro rfl ?_) | refine And.intro (fun (_ : true = true) => ?_) (fun (h : true = false) => Bool.noConfusion h) | refine And.intro (fun (h : false = true) => Bool.noConfusion h) (fun (_ : false = false) => ?_)
    refine And.intro trivial ?_
    repeat first | refine And.intro rfl ?_ | refine Or.inl (And.intro rfl ?_) | refine Or.inr (And.intro rfl ?_) | refine And.intro (fun (_ : true = true) => ?_) (fun (h : true = false) => Bool.noConfusion h) | refine And.intro (fun (h : false = true) => Bool.noConfusion h) (fun (_ : false = false) => ?_)
    refine And.intro trivial ?_
    repeat first | refine And.intro rfl ?_ | refine Or.inl (And.intro rfl ?_) | refine Or.inr (And.intro rfl ?_) | refine And.intro (fun (_ : true = true) => ?_) (fun (h : true = false) => Bool.noConfusion h) | refine And.intro (fun (h : false = true) => Bool.noConfusion h) (fun (_ : false = false) => ?_)
    refine And.intro (fun hc => ?_) (fun hc => ?_)
    · repeat first | refine And.intro rfl ?_ | refine Or.inl (And.intro rfl ?_) | refine Or.inr (And.intro rfl ?_) | refine And.intro (fun (_ : true = true) => ?_) (fun (h : true = false) => Bool.noConfusion h) | refine And.intro (fun (h : false = true) => Bool.noConfusion h) (fun (_ : false = false) => ?_)
      exact resI (by rw [cmpZ, if_pos (of_decide_eq_true hc)])
    · repeat first | refine And.intro rfl ?_ | refine Or.inl (And.intro rfl ?_) | refine Or.inr (And.intro rfl ?_) | refine And.intro (fun (_ : true = true) => ?_) (fun (h : true = false) => Bool.noConfusion h) | refine And.intro (fun (h : false = true) => Bool.noConfusion h) (fun (_ : false = false) => ?_)
      refine And.intro (fun hd => ?_) (fun hd => ?_)
      · repeat first | refine And.intro rfl ?_ | refine Or.inl (And.intro rfl ?_) | refine Or.inr (And.intro rfl ?_) | refine And.intro (fun (_ : true = true) => ?_) (fun (h : true = false) => Bool.noConfusion h) | refine And.intro (fun (h : false = true) => Bool.noConfusion h) (fun (_ : false = false) => ?_)
        exact resI (by rw [cmpZ, if_neg (of_decide_eq_false hc), if_pos (of_decide_eq_true hd)])
      · repeat first | refine And.intro rfl ?_ | refine Or.inl (And.intro rfl ?_) | refine Or.inr (And.intro rfl ?_) | refine And.intro (fun (_ : true = true) => ?_) (fun (h : true = false) => Bool.noConfusion h) | refine And.intro (fun (h : false = true) => Bool.noConfusion h) (fun (_ : false = false) => ?_)
        exact resI (by rw [cmpZ, if_neg (of_decide_eq_false hc), if_neg (of_decide_eq_false hd)])
  · cases h

theorem ok_cmpU : Ok1 180 sCmpU := by
  refine ok_of TB1_ok Try.func180 rfl (by kernel_rfl) ?_
  intro xs pre res h hp hlim
  unfold sCmpU at h
  split at h
  · rename_i a b
    cases h
    refine And.intro (Nat.le_of_ble_eq_true rfl) ?_
    repeat first | refine And.intro rfl ?_ | refine Or.inl (And.intro rfl ?_) | refine Or.inr (And.intro rfl ?_) | refine And.intro (fun (_ : true = true) => ?_) (fun (h : true = false) => Bool.noConfusion h) | refine And.intro (fun (h : false = true) => Bool.noConfusion h) (fun (_ : false = false) => ?_)
    refine And.intro trivial ?_
    repeat first | refine And.intro rfl ?_ | refine Or.inl (And.intro rfl ?_) | refine Or.inr (And.intro rfl ?_) | refine And.intro (fun (_ : true = true) => ?_) (fun (h : true = false) => Bool.noConfusion h) | refine And.intro (fun (h : false = true) => Bool.noConfusion h) (fun (_ : false = false) => ?_)
    refine And.intro trivial ?_
    repeat first | refine And.intro rfl ?_ | refine Or.inl (And.intro rfl ?_) | refine Or.inr (And.intro rfl ?_) | refine And.intro (fun (_ : true = true) => ?_) (fun (h : true = false) => Bool.noConfusion h) | refine And.intro (fun (h : false = true) => Bool.noConfusion h) (fun (_ : false = false) => ?_)
    refine And.intro (fun hc => ?_) (fun hc => ?_)
    · repeat first | refine And.intro rfl ?_ | refine Or.inl (And.intro rfl ?_) | refine Or.inr (And.intro rfl ?_) | refine And.intro (fun (_ : true = true) => ?_) (fun (h : true = false) => Bool.noConfusion h) | refine And.intro (fun (h : false = true) => Bool.noConfusion h) (fun (_ : false = false) => ?_)
      exact resI (by rw [cmpZ, if_pos (of_decide_eq_true hc)])
    · repeat first | refine And.intro rfl ?_ | refine Or.inl (And.intro rfl ?_) | refine Or.inr (And.intro rfl ?_) | refine And.intro (fun (_ : true = true) => ?_) (fun (h : true = false) => Bool.noConfusion h) | refine And.intro (fun (h : false = true) => Bool.noConfusion h) (fun (_ : false = false) => ?_)
      refine And.intro (fun hd => ?_) (fun hd => ?_)
      · repeat first | refine And.intro rfl ?_ | refine Or.inl (And.intro rfl ?_) | refine Or.inr (And.intro rfl ?_) | refine And.intro (fun (_ : true = true) => ?_) (fun (h : true = false) => Bool.noConfusion h) | refine And.intro (fun (h : false = true) => Bool.noConfusion h) (fun (_ : false = false) => ?_)
        exact resI (by rw [cmpZ, if_neg (of_decide_eq_false hc), if_pos (of_decide_eq_true hd)])
      · repeat first | refine And.intro rfl ?_ | refine Or.inl (And.intro rfl ?_) | refine Or.inr (And.intro rfl ?_) | refine And.intro (fun (_ : true = true) => ?_) (fun (h : true = false) => Bool.noConfusion h) | refine And.intro (fun (h : false = true) => Bool.noConfusion h) (fun (_ : false = false) => ?_)
        exact resI (by rw [cmpZ, if_neg (of_decide_eq_false hc), if_neg (of_decide_eq_false hd)])
  · cases h

end Go.Gm
