/-
  The integers of the program. Plain theorems; no condition.
-/
import Derived.Test.YtihmifpdnipdmaaNatH
set_option linter.all false
namespace Go.Gm
open Go.Proofs

/-- A sign and a size. -/
def sg (s : Bool) (n : Nat) : Int := if s then -(n : Int) else n
theorem sg_true (n : Nat) : sg true n = -(n : Int) := rfl
theorem sg_false (n : Nat) : sg false n = n := rfl
theorem sg_abs (s : Bool) (n : Nat) : (sg s n).natAbs = n := by cases s <;> simp [sg]

/-- An integer in normal form. -/
abbrev CI (z : Int) : RV := .agg [.val (.bool (decide (z < 0))), .nat (dg z.natAbs)]

theorem sg_CI (z : Int) : sg (decide (z < 0)) (nv (dg z.natAbs)) = z := by
  rw [nv_dg]
  unfold sg
  by_cases h : z < 0
  · simp [h]; omega
  · simp [h]; omega

theorem resCI {b : Bool} {l : List Nat} {z : Int} (h : b = decide (z < 0)) (h' : l = dg z.natAbs) : Res.r (.agg [.val (.bool b), .nat l]) = Res.r (CI z) := by rw [h, h']

theorem len_of_lt {l : List Nat} (h : Lim l) {n : Nat} (hn : l.length ≤ n) : nv l < B ^ n := Nat.lt_of_lt_of_le (nv_lt h) (Nat.pow_le_pow_right B_pos hn)
theorem lt_dg {a n : Nat} (h : (dg a).length ≤ n) : a < B ^ n := lt_of_dg_len a n h
theorem len_add {a b n : Nat} (ha : a < B ^ n) (hb : b < B ^ n) : (dg (a + b)).length ≤ n + 1 := by
  refine dg_len_of_lt _ _ ?_
  have : 2 * B ^ n ≤ B ^ n * B := by rw [Nat.mul_comm]; exact Nat.mul_le_mul_left _ (by decide)
  rw [Nat.pow_succ]
  omega
theorem len_mul {a b n m : Nat} (ha : a < B ^ n) (hb : b < B ^ m) : (dg (a * b)).length ≤ n + m := by
  refine dg_len_of_lt _ _ ?_
  rw [Nat.pow_add]
  exact Nat.mul_lt_mul'' ha hb
theorem len_le {a b n : Nat} (h : a ≤ b) (hb : b < B ^ n) : (dg a).length ≤ n := dg_len_of_lt _ _ (Nat.lt_of_le_of_lt h hb)

def TI0 : Table := [(173, sNorm), (148, sOf), (166, sAdd), (167, sSub), (134, sMul), (153, sCmp)]
theorem TI0_ok : TabOk TI0 := TabOk.cons ok_natNorm (TabOk.cons ok_natOf (TabOk.cons ok_natAdd (TabOk.cons ok_natSub (TabOk.cons ok_natMul (TabOk.cons ok_natCmp TabOk.nil)))))

def sSigned : List RV → Option (Prop × Res)
  | [.one (.b (.val (.bool s))), .one (.b (.nat l))] => some (l.length ≤ 100000, .r (CI (sg s (nv l))))
  | _ => none

theorem ok_intSigned : Ok1 147 sSigned := by
  refine ok_of TI0_ok Try.func147 rfl (by kernel_rfl) ?_
  intro xs pre res h hp hlim
  unfold sSigned at h
  split at h
  · rename_i s l
    cases h
    refine And.intro (Nat.le_of_ble_eq_true rfl) ?_
    cases s
    · repeat first | refine And.intro rfl ?_ | refine Or.inl (And.intro rfl ?_) | refine Or.inr (And.intro rfl ?_) | refine And.intro (fun (_ : true = true) => ?_) (fun (h : true = false) => Bool.noConfusion h) | refine And.intro (fun (h : false = true) => Bool.noConfusion h) (fun (_ : false = false) => ?_)
      refine And.intro (show l.length ≤ 1000000 by omega) ?_
      repeat first | refine And.intro rfl ?_ | refine Or.inl (And.intro rfl ?_) | refine Or.inr (And.intro rfl ?_) | refine And.intro (fun (_ : true = true) => ?_) (fun (h : true = false) => Bool.noConfusion h) | refine And.intro (fun (h : false = true) => Bool.noConfusion h) (fun (_ : false = false) => ?_)
      exact resCI (show false = decide (sg false (nv l) < 0) by rw [sg_false]; simp) (congrArg dg (show nv l = (sg false (nv l)).natAbs by rw [sg_abs]))
    · repeat first | refine And.intro rfl ?_ | refine Or.inl (And.intro rfl ?_) | refine Or.inr (And.intro rfl ?_) | refine And.intro (fun (_ : true = true) => ?_) (fun (h : true = false) => Bool.noConfusion h) | refine And.intro (fun (h : false = true) => Bool.noConfusion h) (fun (_ : false = false) => ?_)
      refine And.intro (show l.length ≤ 1000000 by omega) ?_
      repeat first | refine And.intro rfl ?_ | refine Or.inl (And.intro rfl ?_) | refine Or.inr (And.intro rfl ?_) | refine And.intro (fun (_ : true = true) => ?_) (fun (h : true = false) => Bool.noConfusion h) | refine And.intro (fun (h : false = true) => Bool.noConfusion h) (fun (_ : false = false) => ?_)
      refine resCI ?_ (congrArg dg (show nv l = (sg true (nv l)).natAbs by rw [sg_abs]))
      show decide (((dg (nv l)).length : Int) > 0) = decide (sg true (nv l) < 0)
      rw [sg_true]
      rcases Nat.eq_zero_or_pos (nv l) with h | h
      · rw [h, dg_zero]; rfl
      · have := dg_len_pos h
        simp
        omega
  · cases h

def TI1 : Table := (147, sSigned) :: TI0
theorem TI1_ok : TabOk TI1 := TabOk.cons ok_intSigned TI0_ok

def sIntOf : List RV → Option (Prop × Res)
  | [.one (.b (.val (.int .i64 n)))] => some (-9223372036854775808 ≤ n ∧ n < 9223372036854775808, .r (CI n))
  | _ => none

theorem resCI' {z z' : Int} (h : z = z') : Res.r (CI z) = Res.r (CI z') := by rw [h]

theorem ok_intOf : Ok1 108 sIntOf := by
  refine ok_of TI1_ok Try.func108 rfl (by kernel_rfl) ?_
  intro xs pre res h hp hlim
  unfold sIntOf at h
  split at h
  · rename_i n
    cases h
    have two : ∀ m : Nat, m < 18446744073709551616 → (dg m).length ≤ 100000 := fun m hm => Nat.le_trans (dg_len_of_lt m 2 (by rw [B_eq]; omega)) (by decide)
    refine And.intro (Nat.le_of_ble_eq_true rfl) ?_
    repeat first | refine And.intro rfl ?_ | refine Or.inl (And.intro rfl ?_) | refine Or.inr (And.intro rfl ?_) | refine And.intro (fun (_ : true = true) => ?_) (fun (h : true = false) => Bool.noConfusion h) | refine And.intro (fun (h : false = true) => Bool.noConfusion h) (fun (_ : false = false) => ?_)
    refine And.intro (fun hc => ?_) (fun hc => ?_)
    · have hn : n < 0 := of_decide_eq_true hc
      have e : IntKind.u64.wrap (0 - IntKind.u64.wrap n) = -n := by simp only [wU64]; omega
      repeat first | refine And.intro rfl ?_ | refine Or.inl (And.intro rfl ?_) | refine Or.inr (And.intro rfl ?_) | refine And.intro (fun (_ : true = true) => ?_) (fun (h : true = false) => Bool.noConfusion h) | refine And.intro (fun (h : false = true) => Bool.noConfusion h) (fun (_ : false = false) => ?_)
      refine And.intro (show 0 ≤ IntKind.u64.wrap (0 - IntKind.u64.wrap n) ∧ IntKind.u64.wrap (0 - IntKind.u64.wrap n) < 18446744073709551616 by rw [e]; omega) ?_
      repeat first | refine And.intro rfl ?_ | refine Or.inl (And.intro rfl ?_) | refine Or.inr (And.intro rfl ?_) | refine And.intro (fun (_ : true = true) => ?_) (fun (h : true = false) => Bool.noConfusion h) | refine And.intro (fun (h : false = true) => Bool.noConfusion h) (fun (_ : false = false) => ?_)
      refine And.intro (show (dg (IntKind.u64.wrap (0 - IntKind.u64.wrap n)).toNat).length ≤ 100000 by rw [e]; exact two _ (by omega)) ?_
      repeat first | refine And.intro rfl ?_ | refine Or.inl (And.intro rfl ?_) | refine Or.inr (And.intro rfl ?_) | refine And.intro (fun (_ : true = true) => ?_) (fun (h : true = false) => Bool.noConfusion h) | refine And.intro (fun (h : false = true) => Bool.noConfusion h) (fun (_ : false = false) => ?_)
      refine resCI' ?_
      show sg true (nv (dg (IntKind.u64.wrap (0 - IntKind.u64.wrap n)).toNat)) = n
      rw [e, nv_dg, sg_true]
      omega
    · have hn : ¬ n < 0 := of_decide_eq_false hc
      have e : IntKind.u64.wrap n = n := by simp only [wU64]; omega
      repeat first | refine And.intro rfl ?_ | refine Or.inl (And.intro rfl ?_) | refine Or.inr (And.intro rfl ?_) | refine And.intro (fun (_ : true = true) => ?_) (fun (h : true = false) => Bool.noConfusion h) | refine And.intro (fun (h : false = true) => Bool.noConfusion h) (fun (_ : false = false) => ?_)
      refine And.intro (show 0 ≤ IntKind.u64.wrap n ∧ IntKind.u64.wrap n < 18446744073709551616 by rw [e]; omega) ?_
      repeat first | refine And.intro rfl ?_ | refine Or.inl (And.intro rfl ?_) | refine Or.inr (And.intro rfl ?_) | refine And.intro (fun (_ : true = true) => ?_) (fun (h : true = false) => Bool.noConfusion h) | refine And.intro (fun (h : false = true) => Bool.noConfusion h) (fun (_ : false = false) => ?_)
      refine And.intro (show (dg (IntKind.u64.wrap n).toNat).length ≤ 100000 by rw [e]; exact two _ (by omega)) ?_
      repeat first | refine And.intro rfl ?_ | refine Or.inl (And.intro rfl ?_) | refine Or.inr (And.intro rfl ?_) | refine And.intro (fun (_ : true = true) => ?_) (fun (h : true = false) => Bool.noConfusion h) | refine And.intro (fun (h : false = true) => Bool.noConfusion h) (fun (_ : false = false) => ?_)
      refine resCI' ?_
      show sg false (nv (dg (IntKind.u64.wrap n).toNat)) = n
      rw [e, nv_dg, sg_false]
      omega
  · cases h

def sIntNorm : List RV → Option (Prop × Res)
  | [.agg [.b (.val (.bool s)), .b (.nat l)]] => some (l.length ≤ 100000, .r (CI (sg s (nv l))))
  | _ => none
def sIntNeg : List RV → Option (Prop × Res)
  | [.agg [.b (.val (.bool s)), .b (.nat l)]] => some (l.length ≤ 100000, .r (CI (-(sg s (nv l)))))
  | _ => none

theorem ok_intNorm : Ok1 151 sIntNorm := by
  refine ok_of TI1_ok Try.func151 rfl (by kernel_rfl) ?_
  intro xs pre res h hp hlim
  unfold sIntNorm at h
  split at h
  · rename_i s l
    cases h
    refine And.intro (Nat.le_of_ble_eq_true rfl) ?_
    repeat first | refine And.intro rfl ?_ | refine Or.inl (And.intro rfl ?_) | refine Or.inr (And.intro rfl ?_) | refine And.intro (fun (_ : true = true) => ?_) (fun (h : true = false) => Bool.noConfusion h) | refine And.intro (fun (h : false = true) => Bool.noConfusion h) (fun (_ : false = false) => ?_)
    refine And.intro hp ?_
    repeat first | refine And.intro rfl ?_ | refine Or.inl (And.intro rfl ?_) | refine Or.inr (And.intro rfl ?_) | refine And.intro (fun (_ : true = true) => ?_) (fun (h : true = false) => Bool.noConfusion h) | refine And.intro (fun (h : false = true) => Bool.noConfusion h) (fun (_ : false = false) => ?_)
    rfl
  · cases h

theorem ok_intNeg : Ok1 132 sIntNeg := by
  refine ok_of TI1_ok Try.func132 rfl (by kernel_rfl) ?_
  intro xs pre res h hp hlim
  unfold sIntNeg at h
  split at h
  · rename_i s l
    cases h
    refine And.intro (Nat.le_of_ble_eq_true rfl) ?_
    repeat first | refine And.intro rfl ?_ | refine Or.inl (And.intro rfl ?_) | refine Or.inr (And.intro rfl ?_) | refine And.intro (fun (_ : true = true) => ?_) (fun (h : true = false) => Bool.noConfusion h) | refine And.intro (fun (h : false = true) => Bool.noConfusion h) (fun (_ : false = false) => ?_)
    refine And.intro hp ?_
    repeat first | refine And.intro rfl ?_ | refine Or.inl (And.intro rfl ?_) | refine Or.inr (And.intro rfl ?_) | refine And.intro (fun (_ : true = true) => ?_) (fun (h : true = false) => Bool.noConfusion h) | refine And.intro (fun (h : false = true) => Bool.noConfusion h) (fun (_ : false = false) => ?_)
    exact resCI' (show sg (!s) (nv l) = -(sg s (nv l)) by cases s <;> simp [sg])
  · cases h

def sIntMul : List RV → Option (Prop × Res)
  | [.agg [.b (.val (.bool s)), .b (.nat l)], .agg [.b (.val (.bool s')), .b (.nat l')]] => some (l.length ≤ 40000 ∧ l'.length ≤ 40000, .r (CI (sg s (nv l) * sg s' (nv l'))))
  | _ => none
def sIntAdd : List RV → Option (Prop × Res)
  | [.agg [.b (.val (.bool s)), .b (.nat l)], .agg [.b (.val (.bool s')), .b (.nat l')]] => some (l.length ≤ 90000 ∧ l'.length ≤ 90000, .r (CI (sg s (nv l) + sg s' (nv l'))))
  | _ => none
def sIntCmp : List RV → Option (Prop × Res)
  | [.agg [.b (.val (.bool s)), .b (.nat l)], .agg [.b (.val (.bool s')), .b (.nat l')]] => some (l.length ≤ 100000 ∧ l'.length ≤ 100000, .r (.val (.int .i64 (cmpZ (sg s (nv l)) (sg s' (nv l'))))))
  | _ => none

theorem ok_intMul : Ok1 115 sIntMul := by
  refine ok_of TI1_ok Try.func115 rfl (by kernel_rfl) ?_
  intro xs pre res h hp hlim
  unfold sIntMul at h
  split at h
  · rename_i s l s' l'
    cases h
    have hl : Lim l := hlim.1.2.1
    have hl' : Lim l' := hlim.2.1.2.1
    refine And.intro (Nat.le_of_ble_eq_true rfl) ?_
    repeat first | refine And.intro rfl ?_ | refine Or.inl (And.intro rfl ?_) | refine Or.inr (And.intro rfl ?_) | refine And.intro (fun (_ : true = true) => ?_) (fun (h : true = false) => Bool.noConfusion h) | refine And.intro (fun (h : false = true) => Bool.noConfusion h) (fun (_ : false = false) => ?_)
    refine And.intro (show l.length ≤ 100000 ∧ l'.length ≤ 100000 by omega) ?_
    repeat first | refine And.intro rfl ?_ | refine Or.inl (And.intro rfl ?_) | refine Or.inr (And.intro rfl ?_) | refine And.intro (fun (_ : true = true) => ?_) (fun (h : true = false) => Bool.noConfusion h) | refine And.intro (fun (h : false = true) => Bool.noConfusion h) (fun (_ : false = false) => ?_)
    refine And.intro (show (dg (nv l * nv l')).length ≤ 100000 from Nat.le_trans (len_mul (len_of_lt hl hp.1) (len_of_lt hl' hp.2)) (by decide)) ?_
    repeat first | refine And.intro rfl ?_ | refine Or.inl (And.intro rfl ?_) | refine Or.inr (And.intro rfl ?_) | refine And.intro (fun (_ : true = true) => ?_) (fun (h : true = false) => Bool.noConfusion h) | refine And.intro (fun (h : false = true) => Bool.noConfusion h) (fun (_ : false = false) => ?_)
    refine resCI' ?_
    show sg (!(s == s')) (nv (dg (nv l * nv l'))) = sg s (nv l) * sg s' (nv l')
    rw [nv_dg]
    cases s <;> cases s' <;> simp [sg, Int.neg_mul, Int.mul_neg]
  · cases h

theorem ok_intAdd : Ok1 133 sIntAdd := by
  refine ok_of TI1_ok Try.func133 rfl (by kernel_rfl) ?_
  intro xs pre res h hp hlim
  unfold sIntAdd at h
  split at h
  · rename_i s l s' l'
    cases h
    have hl : Lim l := hlim.1.2.1
    have hl' : Lim l' := hlim.2.1.2.1
    have b1 := len_of_lt hl hp.1
    have b2 := len_of_lt hl' hp.2
    refine And.intro (Nat.le_of_ble_eq_true rfl) ?_
    repeat first | refine And.intro rfl ?_ | refine Or.inl (And.intro rfl ?_) | refine Or.inr (And.intro rfl ?_) | refine And.intro (fun (_ : true = true) => ?_) (fun (h : true = false) => Bool.noConfusion h) | refine And.intro (fun (h : false = true) => Bool.noConfusion h) (fun (_ : false = false) => ?_)
    refine And.intro (fun hc => ?_) (fun hc => ?_)
    · have hss : s = s' := by simpa using hc
      subst hss
      repeat first | refine And.intro rfl ?_ | refine Or.inl (And.intro rfl ?_) | refine Or.inr (And.intro rfl ?_) | refine And.intro (fun (_ : true = true) => ?_) (fun (h : true = false) => Bool.noConfusion h) | refine And.intro (fun (h : false = true) => Bool.noConfusion h) (fun (_ : false = false) => ?_)
      refine And.intro (show l.length ≤ 100000 ∧ l'.length ≤ 100000 by omega) ?_
      repeat first | refine And.intro rfl ?_ | refine Or.inl (And.intro rfl ?_) | refine Or.inr (And.intro rfl ?_) | refine And.intro (fun (_ : true = true) => ?_) (fun (h : true = false) => Bool.noConfusion h) | refine And.intro (fun (h : false = true) => Bool.noConfusion h) (fun (_ : false = false) => ?_)
      refine And.intro (show (dg (nv l + nv l')).length ≤ 100000 from Nat.le_trans (len_add b1 b2) (by decide)) ?_
      repeat first | refine And.intro rfl ?_ | refine Or.inl (And.intro rfl ?_) | refine Or.inr (And.intro rfl ?_) | refine And.intro (fun (_ : true = true) => ?_) (fun (h : true = false) => Bool.noConfusion h) | refine And.intro (fun (h : false = true) => Bool.noConfusion h) (fun (_ : false = false) => ?_)
      refine resCI' ?_
      show sg s (nv (dg (nv l + nv l'))) = sg s (nv l) + sg s (nv l')
      rw [nv_dg]
      cases s <;> simp [sg]; omega
    · have hss : s' = !s := by cases s <;> cases s' <;> first | rfl | cases hc
      subst hss
      repeat first | refine And.intro rfl ?_ | refine Or.inl (And.intro rfl ?_) | refine Or.inr (And.intro rfl ?_) | refine And.intro (fun (_ : true = true) => ?_) (fun (h : true = false) => Bool.noConfusion h) | refine And.intro (fun (h : false = true) => Bool.noConfusion h) (fun (_ : false = false) => ?_)
      refine And.intro (show l.length ≤ 100000 ∧ l'.length ≤ 100000 by omega) ?_
      repeat first | refine And.intro rfl ?_ | refine Or.inl (And.intro rfl ?_) | refine Or.inr (And.intro rfl ?_) | refine And.intro (fun (_ : true = true) => ?_) (fun (h : true = false) => Bool.noConfusion h) | refine And.intro (fun (h : false = true) => Bool.noConfusion h) (fun (_ : false = false) => ?_)
      refine And.intro (fun hd => ?_) (fun hd => ?_)
      · have hle : nv l' ≤ nv l := of_decide_eq_true hd
        repeat first | refine And.intro rfl ?_ | refine Or.inl (And.intro rfl ?_) | refine Or.inr (And.intro rfl ?_) | refine And.intro (fun (_ : true = true) => ?_) (fun (h : true = false) => Bool.noConfusion h) | refine And.intro (fun (h : false = true) => Bool.noConfusion h) (fun (_ : false = false) => ?_)
        refine And.intro (show (dg (nv l - nv l')).length ≤ 100000 from Nat.le_trans (len_le (Nat.sub_le _ _) b1) (by decide)) ?_
        repeat first | refine And.intro rfl ?_ | refine Or.inl (And.intro rfl ?_) | refine Or.inr (And.intro rfl ?_) | refine And.intro (fun (_ : true = true) => ?_) (fun (h : true = false) => Bool.noConfusion h) | refine And.intro (fun (h : false = true) => Bool.noConfusion h) (fun (_ : false = false) => ?_)
        refine resCI' ?_
        show sg s (nv (dg (nv l - nv l'))) = sg s (nv l) + sg (!s) (nv l')
        rw [nv_dg]
        cases s <;> simp [sg] <;> omega
      · have hle : ¬ nv l' ≤ nv l := of_decide_eq_false hd
        repeat first | refine And.intro rfl ?_ | refine Or.inl (And.intro rfl ?_) | refine Or.inr (And.intro rfl ?_) | refine And.intro (fun (_ : true = true) => ?_) (fun (h : true = false) => Bool.noConfusion h) | refine And.intro (fun (h : false = true) => Bool.noConfusion h) (fun (_ : false = false) => ?_)
        refine And.intro (show l'.length ≤ 100000 ∧ l.length ≤ 100000 by omega) ?_
        repeat first | refine And.intro rfl ?_ | refine Or.inl (And.intro rfl ?_) | refine Or.inr (And.intro rfl ?_) | refine And.intro (fun (_ : true = true) => ?_) (fun (h : true = false) => Bool.noConfusion h) | refine And.intro (fun (h : false = true) => Bool.noConfusion h) (fun (_ : false = false) => ?_)
        refine And.intro (show (dg (nv l' - nv l)).length ≤ 100000 from Nat.le_trans (len_le (Nat.sub_le _ _) b2) (by decide)) ?_
        repeat first | refine And.intro rfl ?_ | refine Or.inl (And.intro rfl ?_) | refine Or.inr (And.intro rfl ?_) | refine And.intro (fun (_ : true = true) => ?_) (fun (h : true = false) => Bool.noConfusion h) | refine And.intro (fun (h : false = true) => Bool.noConfusion h) (fun (_ : false = false) => ?_)
        refine resCI' ?_
        show sg (!s) (nv (dg (nv l' - nv l))) = sg s (nv l) + sg (!s) (nv l')
        rw [nv_dg]
        cases s <;> simp [sg] <;> omega
  · cases h

def TI2 : Table := (151, sIntNorm) :: TI1
theorem TI2_ok : TabOk TI2 := TabOk.cons ok_intNorm TI1_ok

theorem ok_intCmp : Ok1 114 sIntCmp := by
  refine ok_of TI2_ok Try.func114 rfl (by kernel_rfl) ?_
  intro xs pre res h hp hlim
  unfold sIntCmp at h
  split at h
  · rename_i s l s' l'
    cases h
    have hl : Lim l := hlim.1.2.1
    have hl' : Lim l' := hlim.2.1.2.1
    have hd := dg_nv_len hl
    have hd' := dg_nv_len hl'
    have q1 : (dg (sg s (nv l)).natAbs).length ≤ 1000000 := by rw [sg_abs]; omega
    have q2 : (dg (sg s' (nv l')).natAbs).length ≤ 1000000 := by rw [sg_abs]; omega
    refine And.intro (Nat.le_of_ble_eq_true rfl) ?_
    repeat first | refine And.intro rfl ?_ | refine Or.inl (And.intro rfl ?_) | refine Or.inr (And.intro rfl ?_) | refine And.intro (fun (_ : true = true) => ?_) (fun (h : true = false) => Bool.noConfusion h) | refine And.intro (fun (h : false = true) => Bool.noConfusion h) (fun (_ : false = false) => ?_)
    refine And.intro hp.1 ?_
    repeat first | refine And.intro rfl ?_ | refine Or.inl (And.intro rfl ?_) | refine Or.inr (And.intro rfl ?_) | refine And.intro (fun (_ : true = true) => ?_) (fun (h : true = false) => Bool.noConfusion h) | refine And.intro (fun (h : false = true) => Bool.noConfusion h) (fun (_ : false = false) => ?_)
    refine And.intro hp.2 ?_
    repeat first | refine And.intro rfl ?_ | refine Or.inl (And.intro rfl ?_) | refine Or.inr (And.intro rfl ?_) | refine And.intro (fun (_ : true = true) => ?_) (fun (h : true = false) => Bool.noConfusion h) | refine And.intro (fun (h : false = true) => Bool.noConfusion h) (fun (_ : false = false) => ?_)
    by_cases h1 : sg s (nv l) < 0 <;> by_cases h2 : sg s' (nv l') < 0
    · refine Or.inl (And.intro (decide_eq_true h1) ?_)
      repeat first | refine And.intro rfl ?_ | refine Or.inl (And.intro rfl ?_) | refine Or.inr (And.intro rfl ?_) | refine And.intro (fun (_ : true = true) => ?_) (fun (h : true = false) => Bool.noConfusion h) | refine And.intro (fun (h : false = true) => Bool.noConfusion h) (fun (_ : false = false) => ?_)
      refine And.intro (fun hc => ?_) (fun hc => ?_)
      · exfalso; simp [h2] at hc
      · repeat first | refine And.intro rfl ?_ | refine Or.inl (And.intro rfl ?_) | refine Or.inr (And.intro rfl ?_) | refine And.intro (fun (_ : true = true) => ?_) (fun (h : true = false) => Bool.noConfusion h) | refine And.intro (fun (h : false = true) => Bool.noConfusion h) (fun (_ : false = false) => ?_)
        refine Or.inr (And.intro (show (!decide (sg s (nv l) < 0)) = false by simp [h1]) ?_)
        repeat first | refine And.intro rfl ?_ | refine Or.inl (And.intro rfl ?_) | refine Or.inr (And.intro rfl ?_) | refine And.intro (fun (_ : true = true) => ?_) (fun (h : true = false) => Bool.noConfusion h) | refine And.intro (fun (h : false = true) => Bool.noConfusion h) (fun (_ : false = false) => ?_)
        refine And.intro (fun hc => ?_) (fun hc => ?_)
        · repeat first | refine And.intro rfl ?_ | refine Or.inl (And.intro rfl ?_) | refine Or.inr (And.intro rfl ?_) | refine And.intro (fun (_ : true = true) => ?_) (fun (h : true = false) => Bool.noConfusion h) | refine And.intro (fun (h : false = true) => Bool.noConfusion h) (fun (_ : false = false) => ?_)
          refine And.intro (And.intro q2 q1) ?_
          repeat first | refine And.intro rfl ?_ | refine Or.inl (And.intro rfl ?_) | refine Or.inr (And.intro rfl ?_) | refine And.intro (fun (_ : true = true) => ?_) (fun (h : true = false) => Bool.noConfusion h) | refine And.intro (fun (h : false = true) => Bool.noConfusion h) (fun (_ : false = false) => ?_)
          refine resI ?_
          show cmpZ (nv (dg (sg s' (nv l')).natAbs)) (nv (dg (sg s (nv l)).natAbs)) = cmpZ (sg s (nv l)) (sg s' (nv l'))
          rw [nv_dg, nv_dg]
          generalize sg s (nv l) = x at *
          generalize sg s' (nv l') = y at *
          rcases Int.lt_trichotomy x y with h | h | h
          · rw [cmpZ_lt h, cmpZ_lt (by omega)]
          · rw [cmpZ_eq h, cmpZ_eq (by omega)]
          · rw [cmpZ_gt h, cmpZ_gt (by omega)]
        · exfalso; simp [h1] at hc
    · refine Or.inl (And.intro (decide_eq_true h1) ?_)
      repeat first | refine And.intro rfl ?_ | refine Or.inl (And.intro rfl ?_) | refine Or.inr (And.intro rfl ?_) | refine And.intro (fun (_ : true = true) => ?_) (fun (h : true = false) => Bool.noConfusion h) | refine And.intro (fun (h : false = true) => Bool.noConfusion h) (fun (_ : false = false) => ?_)
      refine And.intro (fun hc => ?_) (fun hc => ?_)
      · repeat first | refine And.intro rfl ?_ | refine Or.inl (And.intro rfl ?_) | refine Or.inr (And.intro rfl ?_) | refine And.intro (fun (_ : true = true) => ?_) (fun (h : true = false) => Bool.noConfusion h) | refine And.intro (fun (h : false = true) => Bool.noConfusion h) (fun (_ : false = false) => ?_)
        exact resI (cmpZ_lt (by omega)).symm
      · exfalso; simp [h2] at hc
    · refine Or.inr (And.intro (decide_eq_false h1) ?_)
      repeat first | refine And.intro rfl ?_ | refine Or.inl (And.intro rfl ?_) | refine Or.inr (And.intro rfl ?_) | refine And.intro (fun (_ : true = true) => ?_) (fun (h : true = false) => Bool.noConfusion h) | refine And.intro (fun (h : false = true) => Bool.noConfusion h) (fun (_ : false = false) => ?_)
      refine Or.inl (And.intro (show (!decide (sg s (nv l) < 0)) = true by simp [h1]) ?_)
      repeat first | refine And.intro rfl ?_ | refine Or.inl (And.intro rfl ?_) | refine Or.inr (And.intro rfl ?_) | refine And.intro (fun (_ : true = true) => ?_) (fun (h : true = false) => Bool.noConfusion h) | refine And.intro (fun (h : false = true) => Bool.noConfusion h) (fun (_ : false = false) => ?_)
      refine And.intro (fun hc => ?_) (fun hc => ?_)
      · repeat first | refine And.intro rfl ?_ | refine Or.inl (And.intro rfl ?_) | refine Or.inr (And.intro rfl ?_) | refine And.intro (fun (_ : true = true) => ?_) (fun (h : true = false) => Bool.noConfusion h) | refine And.intro (fun (h : false = true) => Bool.noConfusion h) (fun (_ : false = false) => ?_)
        exact resI (cmpZ_gt (by omega)).symm
      · exfalso; simp [h2] at hc
    · refine Or.inr (And.intro (decide_eq_false h1) ?_)
      repeat first | refine And.intro rfl ?_ | refine Or.inl (And.intro rfl ?_) | refine Or.inr (And.intro rfl ?_) | refine And.intro (fun (_ : true = true) => ?_) (fun (h : true = false) => Bool.noConfusion h) | refine And.intro (fun (h : false = true) => Bool.noConfusion h) (fun (_ : false = false) => ?_)
      refine Or.inl (And.intro (show (!decide (sg s (nv l) < 0)) = true by simp [h1]) ?_)
      repeat first | refine And.intro rfl ?_ | refine Or.inl (And.intro rfl ?_) | refine Or.inr (And.intro rfl ?_) | refine And.intro (fun (_ : true = true) => ?_) (fun (h : true = false) => Bool.noConfusion h) | refine And.intro (fun (h : false = true) => Bool.noConfusion h) (fun (_ : false = false) => ?_)
      refine And.intro (fun hc => ?_) (fun hc => ?_)
      · exfalso; simp [h2] at hc
      · repeat first | refine And.intro rfl ?_ | refine Or.inl (And.intro rfl ?_) | refine Or.inr (And.intro rfl ?_) | refine And.intro (fun (_ : true = true) => ?_) (fun (h : true = false) => Bool.noConfusion h) | refine And.intro (fun (h : false = true) => Bool.noConfusion h) (fun (_ : false = false) => ?_)
        refine And.intro (fun hc => ?_) (fun hc => ?_)
        · exfalso; simp [h1] at hc
        · repeat first | refine And.intro rfl ?_ | refine Or.inl (And.intro rfl ?_) | refine Or.inr (And.intro rfl ?_) | refine And.intro (fun (_ : true = true) => ?_) (fun (h : true = false) => Bool.noConfusion h) | refine And.intro (fun (h : false = true) => Bool.noConfusion h) (fun (_ : false = false) => ?_)
          refine And.intro (And.intro q1 q2) ?_
          repeat first | refine And.intro rfl ?_ | refine Or.inl (And.intro rfl ?_) | refine Or.inr (And.intro rfl ?_) | refine And.intro (fun (_ : true = true) => ?_) (fun (h : true = false) => Bool.noConfusion h) | refine And.intro (fun (h : false = true) => Bool.noConfusion h) (fun (_ : false = false) => ?_)
          refine resI ?_
          show cmpZ (nv (dg (sg s (nv l)).natAbs)) (nv (dg (sg s' (nv l')).natAbs)) = cmpZ (sg s (nv l)) (sg s' (nv l'))
          rw [nv_dg, nv_dg]
          generalize sg s (nv l) = x at *
          generalize sg s' (nv l') = y at *
          rcases Int.lt_trichotomy x y with h | h | h
          · rw [cmpZ_lt h, cmpZ_lt (by omega)]
          · rw [cmpZ_eq h, cmpZ_eq (by omega)]
          · rw [cmpZ_gt h, cmpZ_gt (by omega)]
  · cases h

end Go.Gm
