/-
  NatX: several texts in one file. Plain theorems; no condition.
-/
import Derived.Test.YtihmifpdnipdmaaEnv
/-
  The natural numbers of the program, part A. Plain theorems; no condition.
-/
set_option linter.all false
namespace Go.Gm
open Go.Proofs

abbrev RV.val (v : Value) : RV := .one (.b (.val v))

theorem wI {x : Int} (h0 : -9223372036854775808 ≤ x) (h1 : x < 9223372036854775808) : IntKind.i64.wrap x = x := by
  rw [IntKind.wrap_i64]
  omega
theorem wU64 (n : Int) : IntKind.u64.wrap n = n % 18446744073709551616 := by simp [IntKind.wrap, IntKind.bits, IntKind.signed]
theorem wU32 (n : Int) : IntKind.u32.wrap n = n % 4294967296 := by simp [IntKind.wrap, IntKind.bits, IntKind.signed]
theorem wU {x : Int} (h0 : 0 ≤ x) (h1 : x < 18446744073709551616) : IntKind.u64.wrap x = x := by rw [wU64]; omega

/-- Results that are equal. -/
theorem resN {l l' : List Nat} (h : l = l') : Res.r (.one (.nat l)) = Res.r (.one (.nat l')) := by rw [h]
theorem avI {k : IntKind} {x y : Int} (h : x = y) : AV.val (.int k x) = AV.val (.int k y) := by rw [h]
theorem avN {l l' : List Nat} (h : l = l') : AV.one (.nat l) = AV.one (.nat l') := by rw [h]

def sTrim : List RV → Option (Prop × Res)
  | [.one (.b (.nat l))] => some (l.length ≤ 1000000, .r (.one (.nat (dg (nv l)))))
  | _ => none

theorem nv_drop_zero (l : List Nat) (k : Nat) (h0 : 0 < k) (hk : k ≤ l.length) (h : nv (l.drop k) = 0) (hx : l.getD (k - 1) 0 = 0) : nv (l.drop (k - 1)) = 0 := by
  have e : l.drop (k - 1) = l[k - 1] :: l.drop k := by
    rw [List.drop_eq_getElem_cons (by omega)]
    congr 2
    omega
  rw [e]
  have : l[k - 1] = 0 := by
    rw [List.getD_eq_getElem?_getD, List.getElem?_eq_getElem (by omega)] at hx
    simpa using hx
  simp [nv, this, h]

theorem ok_trim : Ok1 168 sTrim := by
  refine ok_of TabOk.nil Try.func168 rfl (by kernel_rfl) ?_
  intro xs pre res h hp hlim
  unfold sTrim at h
  split at h
  · rename_i l
    cases h
    have hl : Lim l := hlim.1
    refine And.intro (Nat.le_of_ble_eq_true rfl) ?_
    repeat first | refine And.intro rfl ?_ | refine Or.inl (And.intro rfl ?_) | refine Or.inr (And.intro rfl ?_) | refine And.intro (fun (_ : true = true) => ?_) (fun (h : true = false) => Bool.noConfusion h) | refine And.intro (fun (h : false = true) => Bool.noConfusion h) (fun (_ : false = false) => ?_)
    refine Exists.intro {k : Nat // k ≤ l.length ∧ nv (l.drop k) = 0} (Exists.intro (fun k => ⟨[(0, .one (.nat l)), (3, .val (.int .i64 (k.1 : Nat)))], ⟨[], []⟩⟩) (Exists.intro (fun k => k.1) (Exists.intro ⟨l.length, Nat.le_refl _, by simp [nv]⟩ (And.intro ?le ?body))))
    case le => exact And.intro rfl (And.intro trivial (And.intro rfl (And.intro rfl (And.intro rfl (And.intro rfl trivial)))))
    case body =>
      rintro ⟨k, hk1, hk2⟩
      by_cases hk : 0 < k
      · have hw : IntKind.i64.wrap ((k : Int) - 1) = ((k - 1 : Nat) : Int) := by rw [wI (by omega) (by omega)]; omega
        repeat first | refine And.intro rfl ?_ | refine Or.inl (And.intro rfl ?_) | refine Or.inr (And.intro rfl ?_) | refine And.intro (fun (_ : true = true) => ?_) (fun (h : true = false) => Bool.noConfusion h) | refine And.intro (fun (h : false = true) => Bool.noConfusion h) (fun (_ : false = false) => ?_)
        refine Or.inl (And.intro (by simp; omega) ?_)
        repeat first | refine And.intro rfl ?_ | refine Or.inl (And.intro rfl ?_) | refine Or.inr (And.intro rfl ?_) | refine And.intro (fun (_ : true = true) => ?_) (fun (h : true = false) => Bool.noConfusion h) | refine And.intro (fun (h : false = true) => Bool.noConfusion h) (fun (_ : false = false) => ?_)
        refine And.intro (show 0 ≤ IntKind.i64.wrap ((k : Int) - 1) ∧ IntKind.i64.wrap ((k : Int) - 1) < l.length by rw [hw]; omega) ?_
        repeat first | refine And.intro rfl ?_ | refine Or.inl (And.intro rfl ?_) | refine Or.inr (And.intro rfl ?_) | refine And.intro (fun (_ : true = true) => ?_) (fun (h : true = false) => Bool.noConfusion h) | refine And.intro (fun (h : false = true) => Bool.noConfusion h) (fun (_ : false = false) => ?_)
        refine And.intro (fun hc => ?_) (fun hc => ?_)
        · have hc' : l.getD (k - 1) 0 = 0 := by
            simp only [hw, Int.toNat_natCast, beq_iff_eq] at hc
            omega
          repeat first | refine And.intro rfl ?_ | refine Or.inl (And.intro rfl ?_) | refine Or.inr (And.intro rfl ?_) | refine And.intro (fun (_ : true = true) => ?_) (fun (h : true = false) => Bool.noConfusion h) | refine And.intro (fun (h : false = true) => Bool.noConfusion h) (fun (_ : false = false) => ?_)
          refine Exists.intro ⟨k - 1, by omega, nv_drop_zero l k hk hk1 hk2 hc'⟩ (And.intro (show k - 1 < k by omega) ?_)
          exact And.intro rfl (And.intro trivial (And.intro rfl (And.intro rfl (And.intro rfl (And.intro (avI hw) trivial)))))
        · have hc' : l.getD (k - 1) 0 ≠ 0 := by
            simp only [hw, Int.toNat_natCast, beq_eq_false_iff_ne] at hc
            omega
          repeat first | refine And.intro rfl ?_ | refine Or.inl (And.intro rfl ?_) | refine Or.inr (And.intro rfl ?_) | refine And.intro (fun (_ : true = true) => ?_) (fun (h : true = false) => Bool.noConfusion h) | refine And.intro (fun (h : false = true) => Bool.noConfusion h) (fun (_ : false = false) => ?_)
          refine And.intro (show 0 ≤ (k : Int) ∧ (k : Int) ≤ l.length by omega) ?_
          refine resN (dg_trim l hl k hk1 hk2 (fun h => ?_))
          rw [List.getD_eq_getElem?_getD, List.getElem?_eq_getElem (by omega)] at hc'
          simpa using hc'
      · have hk0 : k = 0 := by omega
        subst hk0
        repeat first | refine And.intro rfl ?_ | refine Or.inl (And.intro rfl ?_) | refine Or.inr (And.intro rfl ?_) | refine And.intro (fun (_ : true = true) => ?_) (fun (h : true = false) => Bool.noConfusion h) | refine And.intro (fun (h : false = true) => Bool.noConfusion h) (fun (_ : false = false) => ?_)
        refine And.intro (show 0 ≤ (0 : Int) ∧ (0 : Int) ≤ l.length by omega) ?_
        exact resN (dg_trim l hl 0 (by omega) hk2 (fun h => absurd h (by decide)))
  · cases h

end Go.Gm

/-
  The natural numbers of the program, part B: Of, Norm, Cmp. Plain theorems; no condition.
-/
namespace Go.Gm
open Go.Proofs

def TB0 : Table := [(168, sTrim)]
theorem TB0_ok : TabOk TB0 := TabOk.cons ok_trim TabOk.nil

def sOf : List RV → Option (Prop × Res)
  | [.one (.b (.val (.int .u64 n)))] => some (0 ≤ n ∧ n < 18446744073709551616, .r (.one (.nat (dg n.toNat))))
  | _ => none

theorem ok_natOf : Ok1 148 sOf := by
  refine ok_of TB0_ok Try.func148 rfl (by kernel_rfl) ?_
  intro xs pre res h hp hlim
  unfold sOf at h
  split at h
  · rename_i n
    cases h
    obtain ⟨h0, h1⟩ := hp
    have e1 : IntKind.u32.wrap n = n % 4294967296 := wU32 n
    have e2 : IntKind.u32.wrap (n.fdiv (2 ^ min (32 : Int).toNat 64)) = n / 4294967296 := by
      rw [wU32, show (2 : Int) ^ min (32 : Int).toNat 64 = 4294967296 by decide, Int.fdiv_eq_ediv_of_nonneg _ (by decide)]
      omega
    refine And.intro (Nat.le_of_ble_eq_true rfl) ?_
    repeat first | refine And.intro rfl ?_ | refine Or.inl (And.intro rfl ?_) | refine Or.inr (And.intro rfl ?_) | refine And.intro (fun (_ : true = true) => ?_) (fun (h : true = false) => Bool.noConfusion h) | refine And.intro (fun (h : false = true) => Bool.noConfusion h) (fun (_ : false = false) => ?_)
    refine And.intro (show 0 ≤ (32 : Int) by decide) ?_
    repeat first | refine And.intro rfl ?_ | refine Or.inl (And.intro rfl ?_) | refine Or.inr (And.intro rfl ?_) | refine And.intro (fun (_ : true = true) => ?_) (fun (h : true = false) => Bool.noConfusion h) | refine And.intro (fun (h : false = true) => Bool.noConfusion h) (fun (_ : false = false) => ?_)
    refine And.intro (show (0 ≤ IntKind.u32.wrap n ∧ IntKind.u32.wrap n < 4294967296) ∧ (0 ≤ IntKind.u32.wrap (n.fdiv (2 ^ min (32 : Int).toNat 64)) ∧ IntKind.u32.wrap (n.fdiv (2 ^ min (32 : Int).toNat 64)) < 4294967296) ∧ True by rw [e1, e2]; exact ⟨⟨by omega, by omega⟩, ⟨by omega, by omega⟩, trivial⟩) ?_
    repeat first | refine And.intro rfl ?_ | refine Or.inl (And.intro rfl ?_) | refine Or.inr (And.intro rfl ?_) | refine And.intro (fun (_ : true = true) => ?_) (fun (h : true = false) => Bool.noConfusion h) | refine And.intro (fun (h : false = true) => Bool.noConfusion h) (fun (_ : false = false) => ?_)
    refine And.intro (show 2 ≤ 1000000 by decide) ?_
    refine resN (congrArg dg ?_)
    show nv [(IntKind.u32.wrap n).toNat, (IntKind.u32.wrap (n.fdiv (2 ^ min (32 : Int).toNat 64))).toNat] = n.toNat
    rw [e1, e2, nv_two, B_eq]
    omega
  · cases h

def sNorm : List RV → Option (Prop × Res)
  | [.one (.b (.nat l))] => some (l.length ≤ 1000000, .r (.one (.nat (dg (nv l)))))
  | _ => none

theorem ok_natNorm : Ok1 173 sNorm := by
  refine ok_of TB0_ok Try.func173 rfl (by kernel_rfl) ?_
  intro xs pre res h hp hlim
  unfold sNorm at h
  split at h
  · rename_i l
    cases h
    have hl : Lim l := hlim.1
    have hd := dg_nv_len hl
    refine And.intro (Nat.le_of_ble_eq_true rfl) ?_
    repeat first | refine And.intro rfl ?_ | refine Or.inl (And.intro rfl ?_) | refine Or.inr (And.intro rfl ?_) | refine And.intro (fun (_ : true = true) => ?_) (fun (h : true = false) => Bool.noConfusion h) | refine And.intro (fun (h : false = true) => Bool.noConfusion h) (fun (_ : false = false) => ?_)
    refine And.intro hp ?_
    repeat first | refine And.intro rfl ?_ | refine Or.inl (And.intro rfl ?_) | refine Or.inr (And.intro rfl ?_) | refine And.intro (fun (_ : true = true) => ?_) (fun (h : true = false) => Bool.noConfusion h) | refine And.intro (fun (h : false = true) => Bool.noConfusion h) (fun (_ : false = false) => ?_)
    refine And.intro (show 0 ≤ ((dg (nv l)).length : Int) ∧ ((dg (nv l)).length : Int) ≤ (dg (nv l)).length ∧ ((dg (nv l)).length : Int) ≤ 1000000 by omega) ?_
    repeat first | refine And.intro rfl ?_ | refine Or.inl (And.intro rfl ?_) | refine Or.inr (And.intro rfl ?_) | refine And.intro (fun (_ : true = true) => ?_) (fun (h : true = false) => Bool.noConfusion h) | refine And.intro (fun (h : false = true) => Bool.noConfusion h) (fun (_ : false = false) => ?_)
    refine And.intro (show (dg (nv l)).length = (List.replicate ((dg (nv l)).length : Int).toNat 0).length by simp) ?_
    repeat first | refine And.intro rfl ?_ | refine Or.inl (And.intro rfl ?_) | refine Or.inr (And.intro rfl ?_) | refine And.intro (fun (_ : true = true) => ?_) (fun (h : true = false) => Bool.noConfusion h) | refine And.intro (fun (h : false = true) => Bool.noConfusion h) (fun (_ : false = false) => ?_)
    rfl
  · cases h

/-- The sign of a comparison. -/
def cmpZ (a b : Int) : Int := if a < b then -1 else if b < a then 1 else 0

def sIsNaN (k : IntKind) : List RV → Option (Prop × Res)
  | [.one (.b (.val (.int k' _)))] => cond (decide (k = k')) (some (True, .r (.one (.val (.bool false))))) none
  | _ => none

theorem ok_isNaNi : Ok1 191 (sIsNaN .i64) := by
  refine ok_of TabOk.nil Try.func191 rfl (by kernel_rfl) ?_
  intro xs pre res h hp hlim
  unfold sIsNaN at h
  split at h
  · rename_i k' n
    by_cases hk : IntKind.i64 = k'
    · subst hk
      cases h
      refine And.intro (Nat.le_of_ble_eq_true rfl) ?_
      repeat first | refine And.intro rfl ?_ | refine Or.inl (And.intro rfl ?_) | refine Or.inr (And.intro rfl ?_) | refine And.intro (fun (_ : true = true) => ?_) (fun (h : true = false) => Bool.noConfusion h) | refine And.intro (fun (h : false = true) => Bool.noConfusion h) (fun (_ : false = false) => ?_)
      show Res.r (.one (.val (.bool (n != n)))) = _
      simp
    · simp [hk] at h
  · cases h

theorem ok_isNaNu : Ok1 192 (sIsNaN .u32) := by
  refine ok_of TabOk.nil Try.func192 rfl (by kernel_rfl) ?_
  intro xs pre res h hp hlim
  unfold sIsNaN at h
  split at h
  · rename_i k' n
    by_cases hk : IntKind.u32 = k'
    · subst hk
      cases h
      refine And.intro (Nat.le_of_ble_eq_true rfl) ?_
      repeat first | refine And.intro rfl ?_ | refine Or.inl (And.intro rfl ?_) | refine Or.inr (And.intro rfl ?_) | refine And.intro (fun (_ : true = true) => ?_) (fun (h : true = false) => Bool.noConfusion h) | refine And.intro (fun (h : false = true) => Bool.noConfusion h) (fun (_ : false = false) => ?_)
      show Res.r (.one (.val (.bool (n != n)))) = _
      simp
    · simp [hk] at h
  · cases h

def TB1 : Table := [(191, sIsNaN .i64), (192, sIsNaN .u32)]
theorem TB1_ok : TabOk TB1 := TabOk.cons ok_isNaNi (TabOk.cons ok_isNaNu TabOk.nil)

def sCmpI : List RV → Option (Prop × Res)
  | [.one (.b (.val (.int .i64 a))), .one (.b (.val (.int .i64 b)))] => some (True, .r (.one (.val (.int .i64 (cmpZ a b)))))
  | _ => none
def sCmpU : List RV → Option (Prop × Res)
  | [.one (.b (.val (.int .u32 a))), .one (.b (.val (.int .u32 b)))] => some (True, .r (.one (.val (.int .i64 (cmpZ a b)))))
  | _ => none

theorem resI {k : IntKind} {x y : Int} (h : x = y) : Res.r (.one (.val (.int k x))) = Res.r (.one (.val (.int k y))) := by rw [h]

theorem ok_cmpI : Ok1 179 sCmpI := by
  refine ok_of TB1_ok Try.func179 rfl (by kernel_rfl) ?_
  intro xs pre res h hp hlim
  unfold sCmpI at h
  split at h
  · rename_i a b
    cases h
    refine And.intro (Nat.le_of_ble_eq_true rfl) ?_
    repeat first | refine And.intro rfl ?_ | refine Or.inl (And.intro rfl ?_) | refine Or.inr (And.intro rfl ?_) | refine And.intro (fun (_ : true = true) => ?_) (fun (h : true = false) => Bool.noConfusion h) | refine And.intro (fun (h : false = true) => Bool.noConfusion h) (fun (_ : false = false) => ?_)
    refine And.intro trivial ?_
    repeat first | refine And.intro rfl ?_ | refine Or.inl (And.intro rfl ?_) | refine Or.inr (And.intro rfl ?_) | refine And.intro (fun (_ : true = true) => ?_) (fun (h : true = false) => Bool.noConfusion h) | refine And.intro (fun (h : false = true) => Bool.noConfusion h) (fun (_ : false = false) => ?_)
    refine And.intro trivial ?_
    repeat first | refine And.intro rfl ?_ | refine Or.inl (And.intro rfl ?_) | refine Or.inr (And.intro rfl ?_) | refine And.intro (fun (_ : true = true) => ?_) (fun (h : true = false) => Bool.noConfusion h) | refine And.intro (fun (h : false = true) => Bool.noConfusion h) (fun (_ : false = false) => ?_)
    refine And.intro (fun hc => ?_) (fun hc => ?_)
    · repeat first | refine And.intro rfl ?_ | refine Or.inl (And.intro rfl ?_) | refine Or.inr (And.intro rfl ?_) | refine And.intro (fun (_ : true = true) => ?_) (fun (h : true = false) => Bool.noConfusion h) | refine And.intro (fun (h : false = true) => Bool.noConfusion h) (fun (_ : false = false) => ?_)
      exact resI (by rw [cmpZ, if_pos (of_decide_eq_true hc)])
    · repeat first | refine And.intro rfl ?_ | refine Or.inl (And.intro rfl ?_) | refine Or.inr (And.intro rfl ?_) | refine And.intro (fun (_ : true = true) => ?_) (fun (h : true = false) => Bool.noConfusion h) | refine And.intro (fun (h : false = true) => Bool.noConfusion h) (fun (_ : false = false) => ?_)
      refine And.intro (fun hd => ?_) (fun hd => ?_)
      · repeat first | refine And.intro rfl ?_ | refine Or.inl (And.intro rfl ?_) | refine Or.inr (And.intro rfl ?_) | refine And.intro (fun (_ : true = true) => ?_) (fun (h : true = false) => Bool.noConfusion h) | refine And.intro (fun (h : false = true) => Bool.noConfusion h) (fun (_ : false = false) => ?_)
        exact resI (by rw [cmpZ, if_neg (of_decide_eq_false hc), if_pos (of_decide_eq_true hd)])
      · repeat first | refine And.intro rfl ?_ | refine Or.inl (And.intro rfl ?_) | refine Or.inr (And.intro rfl ?_) | refine And.intro (fun (_ : true = true) => ?_) (fun (h : true = false) => Bool.noConfusion h) | refine And.intro (fun (h : false = true) => Bool.noConfusion h) (fun (_ : false = false) => ?_)
        exact resI (by rw [cmpZ, if_neg (of_decide_eq_false hc), if_neg (of_decide_eq_false hd)])
  · cases h

theorem ok_cmpU : Ok1 180 sCmpU := by
  refine ok_of TB1_ok Try.func180 rfl (by kernel_rfl) ?_
  intro xs pre res h hp hlim
  unfold sCmpU at h
  split at h
  · rename_i a b
    cases h
    refine And.intro (Nat.le_of_ble_eq_true rfl) ?_
    repeat first | refine And.intro rfl ?_ | refine Or.inl (And.intro rfl ?_) | refine Or.inr (And.intro rfl ?_) | refine And.intro (fun (_ : true = true) => ?_) (fun (h : true = false) => Bool.noConfusion h) | refine And.intro (fun (h : false = true) => Bool.noConfusion h) (fun (_ : false = false) => ?_)
    refine And.intro trivial ?_
    repeat first | refine And.intro rfl ?_ | refine Or.inl (And.intro rfl ?_) | refine Or.inr (And.intro rfl ?_) | refine And.intro (fun (_ : true = true) => ?_) (fun (h : true = false) => Bool.noConfusion h) | refine And.intro (fun (h : false = true) => Bool.noConfusion h) (fun (_ : false = false) => ?_)
    refine And.intro trivial ?_
    repeat first | refine And.intro rfl ?_ | refine Or.inl (And.intro rfl ?_) | refine Or.inr (And.intro rfl ?_) | refine And.intro (fun (_ : true = true) => ?_) (fun (h : true = false) => Bool.noConfusion h) | refine And.intro (fun (h : false = true) => Bool.noConfusion h) (fun (_ : false = false) => ?_)
    refine And.intro (fun hc => ?_) (fun hc => ?_)
    · repeat first | refine And.intro rfl ?_ | refine Or.inl (And.intro rfl ?_) | refine Or.inr (And.intro rfl ?_) | refine And.intro (fun (_ : true = true) => ?_) (fun (h : true = false) => Bool.noConfusion h) | refine And.intro (fun (h : false = true) => Bool.noConfusion h) (fun (_ : false = false) => ?_)
      exact resI (by rw [cmpZ, if_pos (of_decide_eq_true hc)])
    · repeat first | refine And.intro rfl ?_ | refine Or.inl (And.intro rfl ?_) | refine Or.inr (And.intro rfl ?_) | refine And.intro (fun (_ : true = true) => ?_) (fun (h : true = false) => Bool.noConfusion h) | refine And.intro (fun (h : false = true) => Bool.noConfusion h) (fun (_ : false = false) => ?_)
      refine And.intro (fun hd => ?_) (fun hd => ?_)
      · repeat first | refine And.intro rfl ?_ | refine Or.inl (And.intro rfl ?_) | refine Or.inr (And.intro rfl ?_) | refine And.intro (fun (_ : true = true) => ?_) (fun (h : true = false) => Bool.noConfusion h) | refine And.intro (fun (h : false = true) => Bool.noConfusion h) (fun (_ : false = false) => ?_)
        exact resI (by rw [cmpZ, if_neg (of_decide_eq_false hc), if_pos (of_decide_eq_true hd)])
      · repeat first | refine And.intro rfl ?_ | refine Or.inl (And.intro rfl ?_) | refine Or.inr (And.intro rfl ?_) | refine And.intro (fun (_ : true = true) => ?_) (fun (h : true = false) => Bool.noConfusion h) | refine And.intro (fun (h : false = true) => Bool.noConfusion h) (fun (_ : false = false) => ?_)
        exact resI (by rw [cmpZ, if_neg (of_decide_eq_false hc), if_neg (of_decide_eq_false hd)])
  · cases h

end Go.Gm

/-
  The natural numbers of the program, part C: Cmp. Plain theorems; no condition.
-/
namespace Go.Gm
open Go.Proofs

theorem lt_of_len {x y : Nat} (h : (dg x).length < (dg y).length) : x < y := by
  rcases Nat.lt_or_ge x y with h1 | h1
  · exact h1
  · have h2 := lt_of_dg_len x _ (Nat.le_refl _)
    have h3 := dg_len_of_lt y (dg x).length (Nat.lt_of_le_of_lt h1 h2)
    omega

theorem nv_split (p : List Nat) (k : Nat) (hk : k < p.length) : nv p = nv (p.take k) + B ^ k * (p[k] + B * nv (p.drop (k + 1))) := by
  rw [nv_take_drop p k (by omega), List.drop_eq_getElem_cons hk]
  rfl

theorem lt_at {p q : List Nat} (hp : Lim p) (hlen : p.length = q.length) (k : Nat) (hk : k < p.length) (hd : p.drop (k + 1) = q.drop (k + 1)) (h : p.getD k 0 < q.getD k 0) : nv p < nv q := by
  have hk' : k < q.length := by omega
  rw [List.getD_eq_getElem?_getD, List.getD_eq_getElem?_getD, List.getElem?_eq_getElem hk, List.getElem?_eq_getElem hk'] at h
  simp only [Option.getD_some] at h
  rw [nv_split p k hk, nv_split q k hk', hd]
  have h1 := nv_lt (hp.take k)
  rw [List.length_take, Nat.min_eq_left (by omega)] at h1
  have h2 : B ^ k * (p[k] + B * nv (q.drop (k + 1)) + 1) ≤ B ^ k * (q[k] + B * nv (q.drop (k + 1))) := Nat.mul_le_mul_left _ (by omega)
  rw [Nat.mul_add, Nat.mul_one] at h2
  omega

theorem drop_step {p q : List Nat} (k : Nat) (h0 : 0 < k) (hk : k ≤ p.length) (hlen : p.length = q.length) (hd : p.drop k = q.drop k) (h : p.getD (k - 1) 0 = q.getD (k - 1) 0) : p.drop (k - 1) = q.drop (k - 1) := by
  rw [List.getD_eq_getElem?_getD, List.getD_eq_getElem?_getD, List.getElem?_eq_getElem (by omega), List.getElem?_eq_getElem (by omega)] at h
  simp only [Option.getD_some] at h
  rw [List.drop_eq_getElem_cons (i := k - 1) (by omega), List.drop_eq_getElem_cons (i := k - 1) (by omega), h, show k - 1 + 1 = k by omega, hd]

def TC0 : Table := [(168, sTrim), (179, sCmpI), (180, sCmpU)]
theorem TC0_ok : TabOk TC0 := TabOk.cons ok_trim (TabOk.cons ok_cmpI (TabOk.cons ok_cmpU TabOk.nil))

def sCmp : List RV → Option (Prop × Res)
  | [.one (.b (.nat l)), .one (.b (.nat l'))] => some (l.length ≤ 1000000 ∧ l'.length ≤ 1000000, .r (.one (.val (.int .i64 (cmpZ (nv l) (nv l'))))))
  | _ => none

theorem cmpZ_lt {a b : Int} (h : a < b) : cmpZ a b = -1 := by rw [cmpZ, if_pos h]
theorem cmpZ_gt {a b : Int} (h : b < a) : cmpZ a b = 1 := by rw [cmpZ, if_neg (by omega), if_pos h]
theorem cmpZ_eq {a b : Int} (h : a = b) : cmpZ a b = 0 := by rw [cmpZ, if_neg (by omega), if_neg (by omega)]

theorem ok_natCmp : Ok1 153 sCmp := by
  refine ok_of TC0_ok Try.func153 rfl (by kernel_rfl) ?_
  intro xs pre res h hp hlim
  unfold sCmp at h
  split at h
  · rename_i l l'
    cases h
    obtain ⟨hl, hl', _⟩ := hlim
    have hl : Lim l := hl
    have hl' : Lim l' := hl'
    have hd := dg_nv_len hl
    have hd' := dg_nv_len hl'
    refine And.intro (Nat.le_of_ble_eq_true rfl) ?_
    repeat first | refine And.intro rfl ?_ | refine Or.inl (And.intro rfl ?_) | refine Or.inr (And.intro rfl ?_) | refine And.intro (fun (_ : true = true) => ?_) (fun (h : true = false) => Bool.noConfusion h) | refine And.intro (fun (h : false = true) => Bool.noConfusion h) (fun (_ : false = false) => ?_)
    refine And.intro hp.1 ?_
    repeat first | refine And.intro rfl ?_ | refine Or.inl (And.intro rfl ?_) | refine Or.inr (And.intro rfl ?_) | refine And.intro (fun (_ : true = true) => ?_) (fun (h : true = false) => Bool.noConfusion h) | refine And.intro (fun (h : false = true) => Bool.noConfusion h) (fun (_ : false = false) => ?_)
    refine And.intro hp.2 ?_
    repeat first | refine And.intro rfl ?_ | refine Or.inl (And.intro rfl ?_) | refine Or.inr (And.intro rfl ?_) | refine And.intro (fun (_ : true = true) => ?_) (fun (h : true = false) => Bool.noConfusion h) | refine And.intro (fun (h : false = true) => Bool.noConfusion h) (fun (_ : false = false) => ?_)
    refine And.intro trivial ?_
    repeat first | refine And.intro rfl ?_ | refine Or.inl (And.intro rfl ?_) | refine Or.inr (And.intro rfl ?_) | refine And.intro (fun (_ : true = true) => ?_) (fun (h : true = false) => Bool.noConfusion h) | refine And.intro (fun (h : false = true) => Bool.noConfusion h) (fun (_ : false = false) => ?_)
    refine And.intro (fun hc => ?_) (fun hc => ?_)
    · repeat first | refine And.intro rfl ?_ | refine Or.inl (And.intro rfl ?_) | refine Or.inr (And.intro rfl ?_) | refine And.intro (fun (_ : true = true) => ?_) (fun (h : true = false) => Bool.noConfusion h) | refine And.intro (fun (h : false = true) => Bool.noConfusion h) (fun (_ : false = false) => ?_)
      refine resI ?_
      show cmpZ ((dg (nv l)).length : Int) ((dg (nv l')).length : Int) = cmpZ (nv l : Int) (nv l' : Int)
      rcases Nat.lt_trichotomy (dg (nv l)).length (dg (nv l')).length with h1 | h1 | h1
      · have := lt_of_len h1
        rw [cmpZ_lt (by omega), cmpZ_lt (by omega)]
      · rw [cmpZ_eq (by omega)] at hc; cases hc
      · have := lt_of_len h1
        rw [cmpZ_gt (by omega), cmpZ_gt (by omega)]
    · have hlen : (dg (nv l)).length = (dg (nv l')).length := by
        rcases Nat.lt_trichotomy (dg (nv l)).length (dg (nv l')).length with h1 | h1 | h1
        · rw [cmpZ_lt (by omega)] at hc; cases hc
        · exact h1
        · rw [cmpZ_gt (by omega)] at hc; cases hc
      have hw : IntKind.i64.wrap (((dg (nv l)).length : Int) - 1) = ((dg (nv l)).length : Int) - 1 := wI (by omega) (by omega)
      repeat first | refine And.intro rfl ?_ | refine Or.inl (And.intro rfl ?_) | refine Or.inr (And.intro rfl ?_) | refine And.intro (fun (_ : true = true) => ?_) (fun (h : true = false) => Bool.noConfusion h) | refine And.intro (fun (h : false = true) => Bool.noConfusion h) (fun (_ : false = false) => ?_)
      refine Exists.intro {k : Nat // k ≤ (dg (nv l)).length ∧ (dg (nv l)).drop k = (dg (nv l')).drop k} (Exists.intro (fun k => ⟨[(0, .one (.nat (dg (nv l)))), (1, .one (.nat (dg (nv l')))), (6, .val (.int .i64 ((k.1 : Int) - 1)))], ⟨[], []⟩⟩) (Exists.intro (fun k => k.1) (Exists.intro ⟨(dg (nv l)).length, Nat.le_refl _, by rw [hlen, List.drop_length, ← hlen, List.drop_length]⟩ (And.intro ?le ?body))))
      case le => exact And.intro rfl (And.intro trivial (And.intro rfl (And.intro rfl (And.intro rfl (And.intro rfl (And.intro rfl (And.intro (avI hw) trivial)))))))
      case body =>
        rintro ⟨k, hk1, hk2⟩
        repeat first | refine And.intro rfl ?_ | refine Or.inl (And.intro rfl ?_) | refine Or.inr (And.intro rfl ?_) | refine And.intro (fun (_ : true = true) => ?_) (fun (h : true = false) => Bool.noConfusion h) | refine And.intro (fun (h : false = true) => Bool.noConfusion h) (fun (_ : false = false) => ?_)
        refine And.intro (fun hc => ?_) (fun hc => ?_)
        · have hk : 0 < k := by have : (k : Int) - 1 ≥ 0 := of_decide_eq_true hc; omega
          have ek : ((k : Int) - 1).toNat = k - 1 := by omega
          repeat first | refine And.intro rfl ?_ | refine Or.inl (And.intro rfl ?_) | refine Or.inr (And.intro rfl ?_) | refine And.intro (fun (_ : true = true) => ?_) (fun (h : true = false) => Bool.noConfusion h) | refine And.intro (fun (h : false = true) => Bool.noConfusion h) (fun (_ : false = false) => ?_)
          refine And.intro (show 0 ≤ (k : Int) - 1 ∧ (k : Int) - 1 < (dg (nv l)).length by omega) ?_
          repeat first | refine And.intro rfl ?_ | refine Or.inl (And.intro rfl ?_) | refine Or.inr (And.intro rfl ?_) | refine And.intro (fun (_ : true = true) => ?_) (fun (h : true = false) => Bool.noConfusion h) | refine And.intro (fun (h : false = true) => Bool.noConfusion h) (fun (_ : false = false) => ?_)
          refine And.intro (show 0 ≤ (k : Int) - 1 ∧ (k : Int) - 1 < (dg (nv l')).length by omega) ?_
          repeat first | refine And.intro rfl ?_ | refine Or.inl (And.intro rfl ?_) | refine Or.inr (And.intro rfl ?_) | refine And.intro (fun (_ : true = true) => ?_) (fun (h : true = false) => Bool.noConfusion h) | refine And.intro (fun (h : false = true) => Bool.noConfusion h) (fun (_ : false = false) => ?_)
          refine And.intro trivial ?_
          repeat first | refine And.intro rfl ?_ | refine Or.inl (And.intro rfl ?_) | refine Or.inr (And.intro rfl ?_) | refine And.intro (fun (_ : true = true) => ?_) (fun (h : true = false) => Bool.noConfusion h) | refine And.intro (fun (h : false = true) => Bool.noConfusion h) (fun (_ : false = false) => ?_)
          refine And.intro (fun hd => ?_) (fun hd => ?_)
          · repeat first | refine And.intro rfl ?_ | refine Or.inl (And.intro rfl ?_) | refine Or.inr (And.intro rfl ?_) | refine And.intro (fun (_ : true = true) => ?_) (fun (h : true = false) => Bool.noConfusion h) | refine And.intro (fun (h : false = true) => Bool.noConfusion h) (fun (_ : false = false) => ?_)
            refine resI ?_
            show cmpZ (((dg (nv l)).getD ((k : Int) - 1).toNat 0 : Nat) : Int) (((dg (nv l')).getD ((k : Int) - 1).toNat 0 : Nat) : Int) = cmpZ (nv l : Int) (nv l' : Int)
            rw [ek] at hd ⊢
            rcases Nat.lt_trichotomy ((dg (nv l)).getD (k - 1) 0) ((dg (nv l')).getD (k - 1) 0) with h1 | h1 | h1
            · have := lt_at (dg_lim (nv l)) hlen (k - 1) (by omega) (by rw [show k - 1 + 1 = k by omega]; exact hk2) h1
              rw [nv_dg, nv_dg] at this
              rw [cmpZ_lt (by omega), cmpZ_lt (by omega)]
            · rw [cmpZ_eq (by omega)] at hd; cases hd
            · have := lt_at (dg_lim (nv l')) hlen.symm (k - 1) (by omega) (by rw [show k - 1 + 1 = k by omega]; exact hk2.symm) h1
              rw [nv_dg, nv_dg] at this
              rw [cmpZ_gt (by omega), cmpZ_gt (by omega)]
          · have he : (dg (nv l)).getD (k - 1) 0 = (dg (nv l')).getD (k - 1) 0 := by
              rw [ek] at hd
              rcases Nat.lt_trichotomy ((dg (nv l)).getD (k - 1) 0) ((dg (nv l')).getD (k - 1) 0) with h1 | h1 | h1
              · rw [cmpZ_lt (by omega)] at hd; cases hd
              · exact h1
              · rw [cmpZ_gt (by omega)] at hd; cases hd
            repeat first | refine And.intro rfl ?_ | refine Or.inl (And.intro rfl ?_) | refine Or.inr (And.intro rfl ?_) | refine And.intro (fun (_ : true = true) => ?_) (fun (h : true = false) => Bool.noConfusion h) | refine And.intro (fun (h : false = true) => Bool.noConfusion h) (fun (_ : false = false) => ?_)
            refine Exists.intro ⟨k - 1, by omega, drop_step k hk hk1 hlen hk2 he⟩ (And.intro (show k - 1 < k by omega) ?_)
            exact And.intro rfl (And.intro trivial (And.intro rfl (And.intro rfl (And.intro rfl (And.intro rfl (And.intro rfl (And.intro (avI (show IntKind.i64.wrap ((k : Int) - 1 - 1) = ((k - 1 : Nat) : Int) - 1 by rw [wI (by omega) (by omega)]; omega)) trivial)))))))
        · have hk : k = 0 := by have : ¬ (k : Int) - 1 ≥ 0 := of_decide_eq_false hc; omega
          subst hk
          have : nv l = nv l' := dg_inj (by simpa using hk2)
          repeat first | refine And.intro rfl ?_ | refine Or.inl (And.intro rfl ?_) | refine Or.inr (And.intro rfl ?_) | refine And.intro (fun (_ : true = true) => ?_) (fun (h : true = false) => Bool.noConfusion h) | refine And.intro (fun (h : false = true) => Bool.noConfusion h) (fun (_ : false = false) => ?_)
          exact resI (cmpZ_eq (by rw [this])).symm
  · cases h

end Go.Gm

/-
  The natural numbers of the program, part D: Add, Sub. Plain theorems; no condition.
-/
namespace Go.Gm
open Go.Proofs

theorem nv_take_getD (l : List Nat) (k : Nat) (hk : k < l.length) : nv (l.take (k + 1)) = nv (l.take k) + B ^ k * l.getD k 0 := by
  rw [nv_take_succ l k hk, List.getD_eq_getElem?_getD, List.getElem?_eq_getElem hk]
  rfl
theorem take_end (l : List Nat) (k : Nat) (hk : l.length ≤ k) : l.take k = l := List.take_of_length_le hk
theorem getD_end (l : List Nat) (k : Nat) (hk : l.length ≤ k) : l.getD k 0 = 0 := by rw [List.getD_eq_getElem?_getD, List.getElem?_eq_none hk]; rfl
theorem nv_take_getD' (l : List Nat) (k : Nat) : nv (l.take (k + 1)) = nv (l.take k) + B ^ k * l.getD k 0 := by
  rcases Nat.lt_or_ge k l.length with h | h
  · exact nv_take_getD l k h
  · rw [take_end l _ (by omega), take_end l _ h, getD_end l k h]; simp

/-- One step of an addition. -/
theorem add_step {p q out : List Nat} {i c : Nat} (hlen : out.length = i) (h : nv out + B ^ i * c = nv (p.take i) + nv (q.take i)) :
    nv (out ++ [(c + p.getD i 0 + q.getD i 0) % B]) + B ^ (i + 1) * ((c + p.getD i 0 + q.getD i 0) / B) = nv (p.take (i + 1)) + nv (q.take (i + 1)) := by
  rw [nv_snoc, hlen, nv_take_getD', nv_take_getD', Nat.pow_succ]
  generalize p.getD i 0 = x
  generalize q.getD i 0 = y
  have e := Nat.mod_add_div (c + x + y) B
  have : B ^ i * ((c + x + y) % B) + B ^ i * B * ((c + x + y) / B) = B ^ i * (c + x + y) := by
    rw [Nat.mul_assoc, ← Nat.mul_add, e]
  rw [Nat.mul_add, Nat.mul_add] at this
  omega

def TD0 : Table := [(168, sTrim), (153, sCmp)]
theorem TD0_ok : TabOk TD0 := TabOk.cons ok_trim (TabOk.cons ok_natCmp TabOk.nil)

def sAdd : List RV → Option (Prop × Res)
  | [.one (.b (.nat l)), .one (.b (.nat l'))] => some (l.length ≤ 100000 ∧ l'.length ≤ 100000, .r (.one (.nat (dg (nv l + nv l')))))
  | _ => none

theorem fdiv32 (n : Int) : n.fdiv (2 ^ min (32 : Int).toNat IntKind.u64.bits) = n / 4294967296 := by
  rw [show (2 : Int) ^ min (32 : Int).toNat IntKind.u64.bits = 4294967296 by decide, Int.fdiv_eq_ediv_of_nonneg _ (by decide)]
theorem fdiv63 (n : Int) : n.fdiv (2 ^ min (63 : Int).toNat IntKind.u64.bits) = n / 9223372036854775808 := by
  rw [show (2 : Int) ^ min (63 : Int).toNat IntKind.u64.bits = 9223372036854775808 by decide, Int.fdiv_eq_ediv_of_nonneg _ (by decide)]


theorem ok_natAdd : Ok1 166 sAdd := by
  refine ok_of TD0_ok Try.func166 rfl (by kernel_rfl) ?_
  intro xs pre res h hp hlim
  unfold sAdd at h
  split at h
  · rename_i l l'
    cases h
    obtain ⟨hl, hl', _⟩ := hlim
    have hl : Lim l := hl
    have hl' : Lim l' := hl'
    have hd := dg_nv_len hl
    have hd' := dg_nv_len hl'
    refine And.intro (Nat.le_of_ble_eq_true rfl) ?_
    repeat first | refine And.intro rfl ?_ | refine Or.inl (And.intro rfl ?_) | refine Or.inr (And.intro rfl ?_) | refine And.intro (fun (_ : true = true) => ?_) (fun (h : true = false) => Bool.noConfusion h) | refine And.intro (fun (h : false = true) => Bool.noConfusion h) (fun (_ : false = false) => ?_)
    refine And.intro (show l.length ≤ 1000000 by omega) ?_
    repeat first | refine And.intro rfl ?_ | refine Or.inl (And.intro rfl ?_) | refine Or.inr (And.intro rfl ?_) | refine And.intro (fun (_ : true = true) => ?_) (fun (h : true = false) => Bool.noConfusion h) | refine And.intro (fun (h : false = true) => Bool.noConfusion h) (fun (_ : false = false) => ?_)
    refine And.intro (show l'.length ≤ 1000000 by omega) ?_
    repeat first | refine And.intro rfl ?_ | refine Or.inl (And.intro rfl ?_) | refine Or.inr (And.intro rfl ?_) | refine And.intro (fun (_ : true = true) => ?_) (fun (h : true = false) => Bool.noConfusion h) | refine And.intro (fun (h : false = true) => Bool.noConfusion h) (fun (_ : false = false) => ?_)
    refine And.intro (fun hc => ?_) (fun hc => ?_)
    · have hlt : ((dg (nv l)).length : Int) < (dg (nv l')).length := of_decide_eq_true hc
      rw [Nat.add_comm]
      repeat first | refine And.intro rfl ?_ | refine Or.inl (And.intro rfl ?_) | refine Or.inr (And.intro rfl ?_) | refine And.intro (fun (_ : true = true) => ?_) (fun (h : true = false) => Bool.noConfusion h) | refine And.intro (fun (h : false = true) => Bool.noConfusion h) (fun (_ : false = false) => ?_)
      refine And.intro (show 0 ≤ (0 : Int) ∧ (0 : Int) ≤ IntKind.i64.wrap (((dg (nv l')).length : Int) + 1) ∧ IntKind.i64.wrap (((dg (nv l')).length : Int) + 1) ≤ 1000000 by rw [wI (by omega) (by omega)]; omega) ?_
      repeat first | refine And.intro rfl ?_ | refine Or.inl (And.intro rfl ?_) | refine Or.inr (And.intro rfl ?_) | refine And.intro (fun (_ : true = true) => ?_) (fun (h : true = false) => Bool.noConfusion h) | refine And.intro (fun (h : false = true) => Bool.noConfusion h) (fun (_ : false = false) => ?_)
      refine Exists.intro {s : Nat × Nat × List Nat // s.1 ≤ (dg (nv l')).length ∧ s.2.1 ≤ 1 ∧ Lim s.2.2 ∧ s.2.2.length = s.1 ∧ nv s.2.2 + B ^ s.1 * s.2.1 = nv ((dg (nv l')).take s.1) + nv ((dg (nv l)).take s.1)} (Exists.intro (fun s => ⟨[(0, .one (.nat (dg (nv l')))), (1, .one (.nat (dg (nv l)))), (5, .own 0), (6, .val (.int .u64 (s.1.2.1 : Nat))), (24, .one (.nat (dg (nv l')))), (25, .val (.int .i64 ((dg (nv l')).length : Nat))), (26, .val (.int .i64 (s.1.1 : Nat)))], ⟨[], [.n 128 s.1.2.2]⟩⟩) (Exists.intro (fun s => (dg (nv l')).length - s.1.1) (Exists.intro ⟨(0, 0, []), by simp [nv, Lim.nil]⟩ (And.intro ?_ ?_))))
      · repeat first | exact trivial | refine And.intro rfl ?_ | refine And.intro trivial ?_ | refine And.intro (And.intro rfl trivial) ?_ | refine And.intro (And.intro rfl (And.intro rfl trivial)) ?_
      · rintro ⟨⟨i, c, out⟩, hi, hc1, hlo, hol, hinv⟩
        simp only at hi hc1 hlo hol hinv
        repeat first | refine And.intro rfl ?_ | refine Or.inl (And.intro rfl ?_) | refine Or.inr (And.intro rfl ?_) | refine And.intro (fun (_ : true = true) => ?_) (fun (h : true = false) => Bool.noConfusion h) | refine And.intro (fun (h : false = true) => Bool.noConfusion h) (fun (_ : false = false) => ?_)
        refine And.intro (fun hc => ?_) (fun hc => ?_)
        · have hi' : (i : Int) < (dg (nv l')).length := of_decide_eq_true hc
          have hx := (dg_lim (nv l')).getD i
          have hy := (dg_lim (nv l)).getD i
          have hB := B_eq
          repeat first | refine And.intro rfl ?_ | refine Or.inl (And.intro rfl ?_) | refine Or.inr (And.intro rfl ?_) | refine And.intro (fun (_ : true = true) => ?_) (fun (h : true = false) => Bool.noConfusion h) | refine And.intro (fun (h : false = true) => Bool.noConfusion h) (fun (_ : false = false) => ?_)
          refine And.intro (show 0 ≤ (i : Int) ∧ (i : Int) < (dg (nv l')).length by omega) ?_
          repeat first | refine And.intro rfl ?_ | refine Or.inl (And.intro rfl ?_) | refine Or.inr (And.intro rfl ?_) | refine And.intro (fun (_ : true = true) => ?_) (fun (h : true = false) => Bool.noConfusion h) | refine And.intro (fun (h : false = true) => Bool.noConfusion h) (fun (_ : false = false) => ?_)
          refine And.intro (fun hd => ?_) (fun hd => ?_)
          · have hd' : (i : Int) < (dg (nv l)).length := of_decide_eq_true hd
            have ec : IntKind.u64.wrap (IntKind.u64.wrap ((c : Int) + IntKind.u64.wrap (((dg (nv l')).getD (i : Int).toNat 0 : Nat) : Int)) + IntKind.u64.wrap (((dg (nv l)).getD (i : Int).toNat 0 : Nat) : Int)) = ((c + (dg (nv l')).getD i 0 + (dg (nv l)).getD i 0 : Nat) : Int) := by
              simp only [wU64, Int.toNat_natCast]
              omega
            have e32 : IntKind.u32.wrap ((c + (dg (nv l')).getD i 0 + (dg (nv l)).getD i 0 : Nat) : Int) = (((c + (dg (nv l')).getD i 0 + (dg (nv l)).getD i 0) % 4294967296 : Nat) : Int) := by rw [wU32]; omega
            repeat first | refine And.intro rfl ?_ | refine Or.inl (And.intro rfl ?_) | refine Or.inr (And.intro rfl ?_) | refine And.intro (fun (_ : true = true) => ?_) (fun (h : true = false) => Bool.noConfusion h) | refine And.intro (fun (h : false = true) => Bool.noConfusion h) (fun (_ : false = false) => ?_)
            refine And.intro (show 0 ≤ (i : Int) ∧ (i : Int) < (dg (nv l)).length by omega) ?_
            repeat first | refine And.intro rfl ?_ | refine Or.inl (And.intro rfl ?_) | refine Or.inr (And.intro rfl ?_) | refine And.intro (fun (_ : true = true) => ?_) (fun (h : true = false) => Bool.noConfusion h) | refine And.intro (fun (h : false = true) => Bool.noConfusion h) (fun (_ : false = false) => ?_)
            refine And.intro (And.intro (show 0 ≤ IntKind.u32.wrap _ ∧ IntKind.u32.wrap _ < 4294967296 by rw [ec, e32]; omega) trivial) ?_
            repeat first | refine And.intro rfl ?_ | refine Or.inl (And.intro rfl ?_) | refine Or.inr (And.intro rfl ?_) | refine And.intro (fun (_ : true = true) => ?_) (fun (h : true = false) => Bool.noConfusion h) | refine And.intro (fun (h : false = true) => Bool.noConfusion h) (fun (_ : false = false) => ?_)
            refine And.intro (show out.length + 1 ≤ 1000000 by omega) ?_
            repeat first | refine And.intro rfl ?_ | refine Or.inl (And.intro rfl ?_) | refine Or.inr (And.intro rfl ?_) | refine And.intro (fun (_ : true = true) => ?_) (fun (h : true = false) => Bool.noConfusion h) | refine And.intro (fun (h : false = true) => Bool.noConfusion h) (fun (_ : false = false) => ?_)
            refine And.intro (show 0 ≤ (32 : Int) by decide) ?_
            repeat first | refine And.intro rfl ?_ | refine Or.inl (And.intro rfl ?_) | refine Or.inr (And.intro rfl ?_) | refine And.intro (fun (_ : true = true) => ?_) (fun (h : true = false) => Bool.noConfusion h) | refine And.intro (fun (h : false = true) => Bool.noConfusion h) (fun (_ : false = false) => ?_)
            refine Exists.intro ⟨(i + 1, (c + (dg (nv l')).getD i 0 + (dg (nv l)).getD i 0) / 4294967296, out ++ [(c + (dg (nv l')).getD i 0 + (dg (nv l)).getD i 0) % 4294967296]), (show i + 1 ≤ _ by omega), (show (c + (dg (nv l')).getD i 0 + (dg (nv l)).getD i 0) / 4294967296 ≤ 1 by omega), hlo.append (Lim.cons (Nat.mod_lt _ B_pos) Lim.nil), (show (out ++ _).length = i + 1 by simp [hol]), add_step hol hinv⟩ (And.intro (show (dg (nv l')).length - (i + 1) < (dg (nv l')).length - i by omega) ?_)
            repeat first | exact trivial | refine And.intro rfl ?_ | refine And.intro trivial ?_ | refine And.intro (And.intro rfl trivial) ?_ | refine And.intro (And.intro rfl (And.intro rfl trivial)) ?_
            · refine And.intro (And.intro ?_ trivial) ?_
              · show Rw.n _ (out ++ [(IntKind.u32.wrap _).toNat]) = Rw.n _ _
                rw [ec, e32, Int.toNat_natCast]
              · repeat first | exact trivial | refine And.intro rfl ?_ | refine And.intro trivial ?_ | refine And.intro (And.intro rfl trivial) ?_ | refine And.intro (And.intro rfl (And.intro rfl trivial)) ?_
                refine And.intro (avI (show Int.fdiv (IntKind.u64.wrap _) (2 ^ min (32 : Int).toNat IntKind.u64.bits) = (((c + (dg (nv l')).getD i 0 + (dg (nv l)).getD i 0) / 4294967296 : Nat) : Int) by rw [ec, fdiv32]; omega)) ?_
                · repeat first | exact trivial | refine And.intro rfl ?_ | refine And.intro trivial ?_ | refine And.intro (And.intro rfl trivial) ?_ | refine And.intro (And.intro rfl (And.intro rfl trivial)) ?_
                  exact And.intro (avI (show IntKind.i64.wrap ((i : Int) + 1) = ((i + 1 : Nat) : Int) by rw [wI (by omega) (by omega)]; omega)) trivial
          · have hd' : ¬ (i : Int) < (dg (nv l)).length := of_decide_eq_false hd
            have hz := getD_end (dg (nv l)) i (by omega)
            have ec : IntKind.u64.wrap ((c : Int) + IntKind.u64.wrap (((dg (nv l')).getD (i : Int).toNat 0 : Nat) : Int)) = ((c + (dg (nv l')).getD i 0 + (dg (nv l)).getD i 0 : Nat) : Int) := by
              simp only [wU64, Int.toNat_natCast]
              omega
            have e32 : IntKind.u32.wrap ((c + (dg (nv l')).getD i 0 + (dg (nv l)).getD i 0 : Nat) : Int) = (((c + (dg (nv l')).getD i 0 + (dg (nv l)).getD i 0) % 4294967296 : Nat) : Int) := by rw [wU32]; omega
            repeat first | refine And.intro rfl ?_ | refine Or.inl (And.intro rfl ?_) | refine Or.inr (And.intro rfl ?_) | refine And.intro (fun (_ : true = true) => ?_) (fun (h : true = false) => Bool.noConfusion h) | refine And.intro (fun (h : false = true) => Bool.noConfusion h) (fun (_ : false = false) => ?_)
            refine And.intro (And.intro (show 0 ≤ IntKind.u32.wrap _ ∧ IntKind.u32.wrap _ < 4294967296 by rw [ec, e32]; omega) trivial) ?_
            repeat first | refine And.intro rfl ?_ | refine Or.inl (And.intro rfl ?_) | refine Or.inr (And.intro rfl ?_) | refine And.intro (fun (_ : true = true) => ?_) (fun (h : true = false) => Bool.noConfusion h) | refine And.intro (fun (h : false = true) => Bool.noConfusion h) (fun (_ : false = false) => ?_)
            refine And.intro (show out.length + 1 ≤ 1000000 by omega) ?_
            repeat first | refine And.intro rfl ?_ | refine Or.inl (And.intro rfl ?_) | refine Or.inr (And.intro rfl ?_) | refine And.intro (fun (_ : true = true) => ?_) (fun (h : true = false) => Bool.noConfusion h) | refine And.intro (fun (h : false = true) => Bool.noConfusion h) (fun (_ : false = false) => ?_)
            refine And.intro (show 0 ≤ (32 : Int) by decide) ?_
            repeat first | refine And.intro rfl ?_ | refine Or.inl (And.intro rfl ?_) | refine Or.inr (And.intro rfl ?_) | refine And.intro (fun (_ : true = true) => ?_) (fun (h : true = false) => Bool.noConfusion h) | refine And.intro (fun (h : false = true) => Bool.noConfusion h) (fun (_ : false = false) => ?_)
            refine Exists.intro ⟨(i + 1, (c + (dg (nv l')).getD i 0 + (dg (nv l)).getD i 0) / 4294967296, out ++ [(c + (dg (nv l')).getD i 0 + (dg (nv l)).getD i 0) % 4294967296]), (show i + 1 ≤ _ by omega), (show (c + (dg (nv l')).getD i 0 + (dg (nv l)).getD i 0) / 4294967296 ≤ 1 by omega), hlo.append (Lim.cons (Nat.mod_lt _ B_pos) Lim.nil), (show (out ++ _).length = i + 1 by simp [hol]), add_step hol hinv⟩ (And.intro (show (dg (nv l')).length - (i + 1) < (dg (nv l')).length - i by omega) ?_)
            repeat first | exact trivial | refine And.intro rfl ?_ | refine And.intro trivial ?_ | refine And.intro (And.intro rfl trivial) ?_ | refine And.intro (And.intro rfl (And.intro rfl trivial)) ?_
            · refine And.intro (And.intro ?_ trivial) ?_
              · show Rw.n _ (out ++ [(IntKind.u32.wrap _).toNat]) = Rw.n _ _
                rw [ec, e32, Int.toNat_natCast]
              · repeat first | exact trivial | refine And.intro rfl ?_ | refine And.intro trivial ?_ | refine And.intro (And.intro rfl trivial) ?_ | refine And.intro (And.intro rfl (And.intro rfl trivial)) ?_
                refine And.intro (avI (show Int.fdiv (IntKind.u64.wrap _) (2 ^ min (32 : Int).toNat IntKind.u64.bits) = (((c + (dg (nv l')).getD i 0 + (dg (nv l)).getD i 0) / 4294967296 : Nat) : Int) by rw [ec, fdiv32]; omega)) ?_
                · repeat first | exact trivial | refine And.intro rfl ?_ | refine And.intro trivial ?_ | refine And.intro (And.intro rfl trivial) ?_ | refine And.intro (And.intro rfl (And.intro rfl trivial)) ?_
                  exact And.intro (avI (show IntKind.i64.wrap ((i : Int) + 1) = ((i + 1 : Nat) : Int) by rw [wI (by omega) (by omega)]; omega)) trivial
        · have hi' : ¬ (i : Int) < (dg (nv l')).length := of_decide_eq_false hc
          have e32 : IntKind.u32.wrap ((c : Nat) : Int) = ((c : Nat) : Int) := by rw [wU32]; omega
          repeat first | refine And.intro rfl ?_ | refine Or.inl (And.intro rfl ?_) | refine Or.inr (And.intro rfl ?_) | refine And.intro (fun (_ : true = true) => ?_) (fun (h : true = false) => Bool.noConfusion h) | refine And.intro (fun (h : false = true) => Bool.noConfusion h) (fun (_ : false = false) => ?_)
          refine And.intro (And.intro (show 0 ≤ IntKind.u32.wrap ((c : Nat) : Int) ∧ IntKind.u32.wrap ((c : Nat) : Int) < 4294967296 by rw [e32]; omega) trivial) ?_
          repeat first | refine And.intro rfl ?_ | refine Or.inl (And.intro rfl ?_) | refine Or.inr (And.intro rfl ?_) | refine And.intro (fun (_ : true = true) => ?_) (fun (h : true = false) => Bool.noConfusion h) | refine And.intro (fun (h : false = true) => Bool.noConfusion h) (fun (_ : false = false) => ?_)
          refine And.intro (show out.length + 1 ≤ 1000000 by omega) ?_
          repeat first | refine And.intro rfl ?_ | refine Or.inl (And.intro rfl ?_) | refine Or.inr (And.intro rfl ?_) | refine And.intro (fun (_ : true = true) => ?_) (fun (h : true = false) => Bool.noConfusion h) | refine And.intro (fun (h : false = true) => Bool.noConfusion h) (fun (_ : false = false) => ?_)
          refine And.intro (show (out ++ [(IntKind.u32.wrap ((c : Nat) : Int)).toNat]).length ≤ 1000000 by simp; omega) ?_
          refine resN (congrArg dg ?_)
          show nv (out ++ [(IntKind.u32.wrap ((c : Nat) : Int)).toNat]) = (nv l') + (nv l)
          rw [e32, Int.toNat_natCast, nv_snoc, hol, hinv, take_end _ _ (by omega), take_end _ _ (by omega), nv_dg, nv_dg]
    · have hlt : ¬ ((dg (nv l)).length : Int) < (dg (nv l')).length := of_decide_eq_false hc
      repeat first | refine And.intro rfl ?_ | refine Or.inl (And.intro rfl ?_) | refine Or.inr (And.intro rfl ?_) | refine And.intro (fun (_ : true = true) => ?_) (fun (h : true = false) => Bool.noConfusion h) | refine And.intro (fun (h : false = true) => Bool.noConfusion h) (fun (_ : false = false) => ?_)
      refine And.intro (show 0 ≤ (0 : Int) ∧ (0 : Int) ≤ IntKind.i64.wrap (((dg (nv l)).length : Int) + 1) ∧ IntKind.i64.wrap (((dg (nv l)).length : Int) + 1) ≤ 1000000 by rw [wI (by omega) (by omega)]; omega) ?_
      repeat first | refine And.intro rfl ?_ | refine Or.inl (And.intro rfl ?_) | refine Or.inr (And.intro rfl ?_) | refine And.intro (fun (_ : true = true) => ?_) (fun (h : true = false) => Bool.noConfusion h) | refine And.intro (fun (h : false = true) => Bool.noConfusion h) (fun (_ : false = false) => ?_)
      refine Exists.intro {s : Nat × Nat × List Nat // s.1 ≤ (dg (nv l)).length ∧ s.2.1 ≤ 1 ∧ Lim s.2.2 ∧ s.2.2.length = s.1 ∧ nv s.2.2 + B ^ s.1 * s.2.1 = nv ((dg (nv l)).take s.1) + nv ((dg (nv l')).take s.1)} (Exists.intro (fun s => ⟨[(0, .one (.nat (dg (nv l)))), (1, .one (.nat (dg (nv l')))), (5, .own 0), (6, .val (.int .u64 (s.1.2.1 : Nat))), (24, .one (.nat (dg (nv l)))), (25, .val (.int .i64 ((dg (nv l)).length : Nat))), (26, .val (.int .i64 (s.1.1 : Nat)))], ⟨[], [.n 128 s.1.2.2]⟩⟩) (Exists.intro (fun s => (dg (nv l)).length - s.1.1) (Exists.intro ⟨(0, 0, []), by simp [nv, Lim.nil]⟩ (And.intro ?_ ?_))))
      · repeat first | exact trivial | refine And.intro rfl ?_ | refine And.intro trivial ?_ | refine And.intro (And.intro rfl trivial) ?_ | refine And.intro (And.intro rfl (And.intro rfl trivial)) ?_
      · rintro ⟨⟨i, c, out⟩, hi, hc1, hlo, hol, hinv⟩
        simp only at hi hc1 hlo hol hinv
        repeat first | refine And.intro rfl ?_ | refine Or.inl (And.intro rfl ?_) | refine Or.inr (And.intro rfl ?_) | refine And.intro (fun (_ : true = true) => ?_) (fun (h : true = false) => Bool.noConfusion h) | refine And.intro (fun (h : false = true) => Bool.noConfusion h) (fun (_ : false = false) => ?_)
        refine And.intro (fun hc => ?_) (fun hc => ?_)
        · have hi' : (i : Int) < (dg (nv l)).length := of_decide_eq_true hc
          have hx := (dg_lim (nv l)).getD i
          have hy := (dg_lim (nv l')).getD i
          have hB := B_eq
          repeat first | refine And.intro rfl ?_ | refine Or.inl (And.intro rfl ?_) | refine Or.inr (And.intro rfl ?_) | refine And.intro (fun (_ : true = true) => ?_) (fun (h : true = false) => Bool.noConfusion h) | refine And.intro (fun (h : false = true) => Bool.noConfusion h) (fun (_ : false = false) => ?_)
          refine And.intro (show 0 ≤ (i : Int) ∧ (i : Int) < (dg (nv l)).length by omega) ?_
          repeat first | refine And.intro rfl ?_ | refine Or.inl (And.intro rfl ?_) | refine Or.inr (And.intro rfl ?_) | refine And.intro (fun (_ : true = true) => ?_) (fun (h : true = false) => Bool.noConfusion h) | refine And.intro (fun (h : false = true) => Bool.noConfusion h) (fun (_ : false = false) => ?_)
          refine And.intro (fun hd => ?_) (fun hd => ?_)
          · have hd' : (i : Int) < (dg (nv l')).length := of_decide_eq_true hd
            have ec : IntKind.u64.wrap (IntKind.u64.wrap ((c : Int) + IntKind.u64.wrap (((dg (nv l)).getD (i : Int).toNat 0 : Nat) : Int)) + IntKind.u64.wrap (((dg (nv l')).getD (i : Int).toNat 0 : Nat) : Int)) = ((c + (dg (nv l)).getD i 0 + (dg (nv l')).getD i 0 : Nat) : Int) := by
              simp only [wU64, Int.toNat_natCast]
              omega
            have e32 : IntKind.u32.wrap ((c + (dg (nv l)).getD i 0 + (dg (nv l')).getD i 0 : Nat) : Int) = (((c + (dg (nv l)).getD i 0 + (dg (nv l')).getD i 0) % 4294967296 : Nat) : Int) := by rw [wU32]; omega
            repeat first | refine And.intro rfl ?_ | refine Or.inl (And.intro rfl ?_) | refine Or.inr (And.intro rfl ?_) | refine And.intro (fun (_ : true = true) => ?_) (fun (h : true = false) => Bool.noConfusion h) | refine And.intro (fun (h : false = true) => Bool.noConfusion h) (fun (_ : false = false) => ?_)
            refine And.intro (show 0 ≤ (i : Int) ∧ (i : Int) < (dg (nv l')).length by omega) ?_
            repeat first | refine And.intro rfl ?_ | refine Or.inl (And.intro rfl ?_) | refine Or.inr (And.intro rfl ?_) | refine And.intro (fun (_ : true = true) => ?_) (fun (h : true = false) => Bool.noConfusion h) | refine And.intro (fun (h : false = true) => Bool.noConfusion h) (fun (_ : false = false) => ?_)
            refine And.intro (And.intro (show 0 ≤ IntKind.u32.wrap _ ∧ IntKind.u32.wrap _ < 4294967296 by rw [ec, e32]; omega) trivial) ?_
            repeat first | refine And.intro rfl ?_ | refine Or.inl (And.intro rfl ?_) | refine Or.inr (And.intro rfl ?_) | refine And.intro (fun (_ : true = true) => ?_) (fun (h : true = false) => Bool.noConfusion h) | refine And.intro (fun (h : false = true) => Bool.noConfusion h) (fun (_ : false = false) => ?_)
            refine And.intro (show out.length + 1 ≤ 1000000 by omega) ?_
            repeat first | refine And.intro rfl ?_ | refine Or.inl (And.intro rfl ?_) | refine Or.inr (And.intro rfl ?_) | refine And.intro (fun (_ : true = true) => ?_) (fun (h : true = false) => Bool.noConfusion h) | refine And.intro (fun (h : false = true) => Bool.noConfusion h) (fun (_ : false = false) => ?_)
            refine And.intro (show 0 ≤ (32 : Int) by decide) ?_
            repeat first | refine And.intro rfl ?_ | refine Or.inl (And.intro rfl ?_) | refine Or.inr (And.intro rfl ?_) | refine And.intro (fun (_ : true = true) => ?_) (fun (h : true = false) => Bool.noConfusion h) | refine And.intro (fun (h : false = true) => Bool.noConfusion h) (fun (_ : false = false) => ?_)
            refine Exists.intro ⟨(i + 1, (c + (dg (nv l)).getD i 0 + (dg (nv l')).getD i 0) / 4294967296, out ++ [(c + (dg (nv l)).getD i 0 + (dg (nv l')).getD i 0) % 4294967296]), (show i + 1 ≤ _ by omega), (show (c + (dg (nv l)).getD i 0 + (dg (nv l')).getD i 0) / 4294967296 ≤ 1 by omega), hlo.append (Lim.cons (Nat.mod_lt _ B_pos) Lim.nil), (show (out ++ _).length = i + 1 by simp [hol]), add_step hol hinv⟩ (And.intro (show (dg (nv l)).length - (i + 1) < (dg (nv l)).length - i by omega) ?_)
            repeat first | exact trivial | refine And.intro rfl ?_ | refine And.intro trivial ?_ | refine And.intro (And.intro rfl trivial) ?_ | refine And.intro (And.intro rfl (And.intro rfl trivial)) ?_
            · refine And.intro (And.intro ?_ trivial) ?_
              · show Rw.n _ (out ++ [(IntKind.u32.wrap _).toNat]) = Rw.n _ _
                rw [ec, e32, Int.toNat_natCast]
              · repeat first | exact trivial | refine And.intro rfl ?_ | refine And.intro trivial ?_ | refine And.intro (And.intro rfl trivial) ?_ | refine And.intro (And.intro rfl (And.intro rfl trivial)) ?_
                refine And.intro (avI (show Int.fdiv (IntKind.u64.wrap _) (2 ^ min (32 : Int).toNat IntKind.u64.bits) = (((c + (dg (nv l)).getD i 0 + (dg (nv l')).getD i 0) / 4294967296 : Nat) : Int) by rw [ec, fdiv32]; omega)) ?_
                · repeat first | exact trivial | refine And.intro rfl ?_ | refine And.intro trivial ?_ | refine And.intro (And.intro rfl trivial) ?_ | refine And.intro (And.intro rfl (And.intro rfl trivial)) ?_
                  exact And.intro (avI (show IntKind.i64.wrap ((i : Int) + 1) = ((i + 1 : Nat) : Int) by rw [wI (by omega) (by omega)]; omega)) trivial
          · have hd' : ¬ (i : Int) < (dg (nv l')).length := of_decide_eq_false hd
            have hz := getD_end (dg (nv l')) i (by omega)
            have ec : IntKind.u64.wrap ((c : Int) + IntKind.u64.wrap (((dg (nv l)).getD (i : Int).toNat 0 : Nat) : Int)) = ((c + (dg (nv l)).getD i 0 + (dg (nv l')).getD i 0 : Nat) : Int) := by
              simp only [wU64, Int.toNat_natCast]
              omega
            have e32 : IntKind.u32.wrap ((c + (dg (nv l)).getD i 0 + (dg (nv l')).getD i 0 : Nat) : Int) = (((c + (dg (nv l)).getD i 0 + (dg (nv l')).getD i 0) % 4294967296 : Nat) : Int) := by rw [wU32]; omega
            repeat first | refine And.intro rfl ?_ | refine Or.inl (And.intro rfl ?_) | refine Or.inr (And.intro rfl ?_) | refine And.intro (fun (_ : true = true) => ?_) (fun (h : true = false) => Bool.noConfusion h) | refine And.intro (fun (h : false = true) => Bool.noConfusion h) (fun (_ : false = false) => ?_)
            refine And.intro (And.intro (show 0 ≤ IntKind.u32.wrap _ ∧ IntKind.u32.wrap _ < 4294967296 by rw [ec, e32]; omega) trivial) ?_
            repeat first | refine And.intro rfl ?_ | refine Or.inl (And.intro rfl ?_) | refine Or.inr (And.intro rfl ?_) | refine And.intro (fun (_ : true = true) => ?_) (fun (h : true = false) => Bool.noConfusion h) | refine And.intro (fun (h : false = true) => Bool.noConfusion h) (fun (_ : false = false) => ?_)
            refine And.intro (show out.length + 1 ≤ 1000000 by omega) ?_
            repeat first | refine And.intro rfl ?_ | refine Or.inl (And.intro rfl ?_) | refine Or.inr (And.intro rfl ?_) | refine And.intro (fun (_ : true = true) => ?_) (fun (h : true = false) => Bool.noConfusion h) | refine And.intro (fun (h : false = true) => Bool.noConfusion h) (fun (_ : false = false) => ?_)
            refine And.intro (show 0 ≤ (32 : Int) by decide) ?_
            repeat first | refine And.intro rfl ?_ | refine Or.inl (And.intro rfl ?_) | refine Or.inr (And.intro rfl ?_) | refine And.intro (fun (_ : true = true) => ?_) (fun (h : true = false) => Bool.noConfusion h) | refine And.intro (fun (h : false = true) => Bool.noConfusion h) (fun (_ : false = false) => ?_)
            refine Exists.intro ⟨(i + 1, (c + (dg (nv l)).getD i 0 + (dg (nv l')).getD i 0) / 4294967296, out ++ [(c + (dg (nv l)).getD i 0 + (dg (nv l')).getD i 0) % 4294967296]), (show i + 1 ≤ _ by omega), (show (c + (dg (nv l)).getD i 0 + (dg (nv l')).getD i 0) / 4294967296 ≤ 1 by omega), hlo.append (Lim.cons (Nat.mod_lt _ B_pos) Lim.nil), (show (out ++ _).length = i + 1 by simp [hol]), add_step hol hinv⟩ (And.intro (show (dg (nv l)).length - (i + 1) < (dg (nv l)).length - i by omega) ?_)
            repeat first | exact trivial | refine And.intro rfl ?_ | refine And.intro trivial ?_ | refine And.intro (And.intro rfl trivial) ?_ | refine And.intro (And.intro rfl (And.intro rfl trivial)) ?_
            · refine And.intro (And.intro ?_ trivial) ?_
              · show Rw.n _ (out ++ [(IntKind.u32.wrap _).toNat]) = Rw.n _ _
                rw [ec, e32, Int.toNat_natCast]
              · repeat first | exact trivial | refine And.intro rfl ?_ | refine And.intro trivial ?_ | refine And.intro (And.intro rfl trivial) ?_ | refine And.intro (And.intro rfl (And.intro rfl trivial)) ?_
                refine And.intro (avI (show Int.fdiv (IntKind.u64.wrap _) (2 ^ min (32 : Int).toNat IntKind.u64.bits) = (((c + (dg (nv l)).getD i 0 + (dg (nv l')).getD i 0) / 4294967296 : Nat) : Int) by rw [ec, fdiv32]; omega)) ?_
                · repeat first | exact trivial | refine And.intro rfl ?_ | refine And.intro trivial ?_ | refine And.intro (And.intro rfl trivial) ?_ | refine And.intro (And.intro rfl (And.intro rfl trivial)) ?_
                  exact And.intro (avI (show IntKind.i64.wrap ((i : Int) + 1) = ((i + 1 : Nat) : Int) by rw [wI (by omega) (by omega)]; omega)) trivial
        · have hi' : ¬ (i : Int) < (dg (nv l)).length := of_decide_eq_false hc
          have e32 : IntKind.u32.wrap ((c : Nat) : Int) = ((c : Nat) : Int) := by rw [wU32]; omega
          repeat first | refine And.intro rfl ?_ | refine Or.inl (And.intro rfl ?_) | refine Or.inr (And.intro rfl ?_) | refine And.intro (fun (_ : true = true) => ?_) (fun (h : true = false) => Bool.noConfusion h) | refine And.intro (fun (h : false = true) => Bool.noConfusion h) (fun (_ : false = false) => ?_)
          refine And.intro (And.intro (show 0 ≤ IntKind.u32.wrap ((c : Nat) : Int) ∧ IntKind.u32.wrap ((c : Nat) : Int) < 4294967296 by rw [e32]; omega) trivial) ?_
          repeat first | refine And.intro rfl ?_ | refine Or.inl (And.intro rfl ?_) | refine Or.inr (And.intro rfl ?_) | refine And.intro (fun (_ : true = true) => ?_) (fun (h : true = false) => Bool.noConfusion h) | refine And.intro (fun (h : false = true) => Bool.noConfusion h) (fun (_ : false = false) => ?_)
          refine And.intro (show out.length + 1 ≤ 1000000 by omega) ?_
          repeat first | refine And.intro rfl ?_ | refine Or.inl (And.intro rfl ?_) | refine Or.inr (And.intro rfl ?_) | refine And.intro (fun (_ : true = true) => ?_) (fun (h : true = false) => Bool.noConfusion h) | refine And.intro (fun (h : false = true) => Bool.noConfusion h) (fun (_ : false = false) => ?_)
          refine And.intro (show (out ++ [(IntKind.u32.wrap ((c : Nat) : Int)).toNat]).length ≤ 1000000 by simp; omega) ?_
          refine resN (congrArg dg ?_)
          show nv (out ++ [(IntKind.u32.wrap ((c : Nat) : Int)).toNat]) = (nv l) + (nv l')
          rw [e32, Int.toNat_natCast, nv_snoc, hol, hinv, take_end _ _ (by omega), take_end _ _ (by omega), nv_dg, nv_dg]
  · cases h

end Go.Gm

/-
  The natural numbers of the program, part E: Sub. Plain theorems; no condition.
-/
namespace Go.Gm
open Go.Proofs

/-- One step of a subtraction. -/
theorem sub_step {p q out : List Nat} {i b x y v b' : Nat} (hlen : out.length = i) (h : nv out + nv (q.take i) = nv (p.take i) + B ^ i * b) (hx : x = p.getD i 0) (hy : y = q.getD i 0) (hv : v + y + b = x + B * b') :
    nv (out ++ [v]) + nv (q.take (i + 1)) = nv (p.take (i + 1)) + B ^ (i + 1) * b' := by
  rw [nv_snoc, hlen, nv_take_getD', nv_take_getD', Nat.pow_succ, ← hx, ← hy]
  have := congrArg (fun z => B ^ i * z) hv
  simp only [Nat.mul_add] at this
  rw [Nat.mul_assoc]
  omega

theorem set_mid (out : List Nat) (m v : Nat) (hm : 0 < m) : (out ++ List.replicate m 0).set out.length v = (out ++ [v]) ++ List.replicate (m - 1) 0 := by
  obtain ⟨k, rfl⟩ : ∃ k, m = k + 1 := ⟨m - 1, by omega⟩
  rw [List.set_append_right _ _ (Nat.le_refl _), Nat.sub_self, List.replicate_succ, List.set_cons_zero]
  simp

theorem resT {l l' : List Nat} {b b' : Bool} (h : l = l') (h' : b = b') : Res.t [.one (.nat l), .val (.bool b)] = Res.t [.one (.nat l'), .val (.bool b')] := by rw [h, h']
theorem rwN {e : TypeId} {l l' : List Nat} (h : l = l') : Rw.n e l = Rw.n e l' := by rw [h]

def sSub : List RV → Option (Prop × Res)
  | [.one (.b (.nat l)), .one (.b (.nat l'))] => some (l.length ≤ 100000 ∧ l'.length ≤ 100000, .t [.one (.nat (dg (nv l - nv l'))), .val (.bool (decide (nv l' ≤ nv l)))])
  | _ => none


theorem ok_natSub : Ok1 167 sSub := by
  refine ok_of TD0_ok Try.func167 rfl (by kernel_rfl) ?_
  intro xs pre res h hp hlim
  unfold sSub at h
  split at h
  · rename_i l l'
    cases h
    obtain ⟨hl, hl', _⟩ := hlim
    have hl : Lim l := hl
    have hl' : Lim l' := hl'
    have hd := dg_nv_len hl
    have hd' := dg_nv_len hl'
    refine And.intro (Nat.le_of_ble_eq_true rfl) ?_
    repeat first | refine And.intro rfl ?_ | refine Or.inl (And.intro rfl ?_) | refine Or.inr (And.intro rfl ?_) | refine And.intro (fun (_ : true = true) => ?_) (fun (h : true = false) => Bool.noConfusion h) | refine And.intro (fun (h : false = true) => Bool.noConfusion h) (fun (_ : false = false) => ?_)
    refine And.intro (show l.length ≤ 1000000 by omega) ?_
    repeat first | refine And.intro rfl ?_ | refine Or.inl (And.intro rfl ?_) | refine Or.inr (And.intro rfl ?_) | refine And.intro (fun (_ : true = true) => ?_) (fun (h : true = false) => Bool.noConfusion h) | refine And.intro (fun (h : false = true) => Bool.noConfusion h) (fun (_ : false = false) => ?_)
    refine And.intro (show l'.length ≤ 1000000 by omega) ?_
    repeat first | refine And.intro rfl ?_ | refine Or.inl (And.intro rfl ?_) | refine Or.inr (And.intro rfl ?_) | refine And.intro (fun (_ : true = true) => ?_) (fun (h : true = false) => Bool.noConfusion h) | refine And.intro (fun (h : false = true) => Bool.noConfusion h) (fun (_ : false = false) => ?_)
    refine And.intro (show (dg (nv l)).length ≤ 1000000 ∧ (dg (nv l')).length ≤ 1000000 by omega) ?_
    repeat first | refine And.intro rfl ?_ | refine Or.inl (And.intro rfl ?_) | refine Or.inr (And.intro rfl ?_) | refine And.intro (fun (_ : true = true) => ?_) (fun (h : true = false) => Bool.noConfusion h) | refine And.intro (fun (h : false = true) => Bool.noConfusion h) (fun (_ : false = false) => ?_)
    refine And.intro (fun hc => ?_) (fun hc => ?_)
    · have hlt : cmpZ (nv (dg (nv l))) (nv (dg (nv l'))) < 0 := of_decide_eq_true hc
      rw [nv_dg, nv_dg] at hlt
      have hlt' : nv l < nv l' := by
        rcases Nat.lt_or_ge (nv l) (nv l') with h | h
        · exact h
        · rcases Nat.lt_or_eq_of_le h with h | h
          · rw [cmpZ_gt (by omega)] at hlt; omega
          · rw [cmpZ_eq (by omega)] at hlt; omega
      repeat first | refine And.intro rfl ?_ | refine Or.inl (And.intro rfl ?_) | refine Or.inr (And.intro rfl ?_) | refine And.intro (fun (_ : true = true) => ?_) (fun (h : true = false) => Bool.noConfusion h) | refine And.intro (fun (h : false = true) => Bool.noConfusion h) (fun (_ : false = false) => ?_)
      exact resT (by rw [Nat.sub_eq_zero_of_le (by omega), dg_zero]) (by simp; omega)
    · have hge : ¬ cmpZ (nv (dg (nv l))) (nv (dg (nv l'))) < 0 := of_decide_eq_false hc
      rw [nv_dg, nv_dg] at hge
      have hge' : nv l' ≤ nv l := by
        rcases Nat.lt_or_ge (nv l) (nv l') with h | h
        · rw [cmpZ_lt (by omega)] at hge; omega
        · exact h
      have hlen : (dg (nv l')).length ≤ (dg (nv l)).length := by
        rcases Nat.lt_or_ge (dg (nv l)).length (dg (nv l')).length with h | h
        · have := lt_of_len h; omega
        · exact h
      repeat first | refine And.intro rfl ?_ | refine Or.inl (And.intro rfl ?_) | refine Or.inr (And.intro rfl ?_) | refine And.intro (fun (_ : true = true) => ?_) (fun (h : true = false) => Bool.noConfusion h) | refine And.intro (fun (h : false = true) => Bool.noConfusion h) (fun (_ : false = false) => ?_)
      refine And.intro (show 0 ≤ ((dg (nv l)).length : Int) ∧ ((dg (nv l)).length : Int) ≤ (dg (nv l)).length ∧ ((dg (nv l)).length : Int) ≤ 1000000 by omega) ?_
      repeat first | refine And.intro rfl ?_ | refine Or.inl (And.intro rfl ?_) | refine Or.inr (And.intro rfl ?_) | refine And.intro (fun (_ : true = true) => ?_) (fun (h : true = false) => Bool.noConfusion h) | refine And.intro (fun (h : false = true) => Bool.noConfusion h) (fun (_ : false = false) => ?_)
      refine Exists.intro {s : Nat × Nat × List Nat // s.1 ≤ (dg (nv l)).length ∧ s.2.1 ≤ 1 ∧ Lim s.2.2 ∧ s.2.2.length = s.1 ∧ nv s.2.2 + nv ((dg (nv l')).take s.1) = nv ((dg (nv l)).take s.1) + B ^ s.1 * s.2.1} (Exists.intro (fun s => ⟨[(0, .one (.nat (dg (nv l)))), (1, .one (.nat (dg (nv l')))), (6, .own 0), (7, .val (.int .u64 (s.1.2.1 : Nat))), (22, .one (.nat (dg (nv l)))), (23, .val (.int .i64 ((dg (nv l)).length : Nat))), (24, .val (.int .i64 (s.1.1 : Nat)))], ⟨[], [.n 128 (s.1.2.2 ++ List.replicate ((dg (nv l)).length - s.1.1) 0)]⟩⟩) (Exists.intro (fun s => (dg (nv l)).length - s.1.1) (Exists.intro ⟨(0, 0, []), by simp [nv, Lim.nil]⟩ (And.intro ?_ ?_))))
      · repeat first | exact trivial | refine And.intro rfl ?_ | refine And.intro trivial ?_ | refine And.intro (And.intro rfl trivial) ?_ | refine And.intro (And.intro rfl (And.intro rfl trivial)) ?_
      · rintro ⟨⟨i, b, out⟩, hi, hb1, hlo, hol, hinv⟩
        simp only at hi hb1 hlo hol hinv
        have hrl : (out ++ List.replicate ((dg (nv l)).length - i) 0).length = (dg (nv l)).length := by simp; omega
        repeat first | refine And.intro rfl ?_ | refine Or.inl (And.intro rfl ?_) | refine Or.inr (And.intro rfl ?_) | refine And.intro (fun (_ : true = true) => ?_) (fun (h : true = false) => Bool.noConfusion h) | refine And.intro (fun (h : false = true) => Bool.noConfusion h) (fun (_ : false = false) => ?_)
        refine And.intro (fun hc => ?_) (fun hc => ?_)
        · have hi' : (i : Int) < (dg (nv l)).length := of_decide_eq_true hc
          have hx : (dg (nv l)).getD i 0 < 4294967296 := (dg_lim (nv l)).getD i
          have hy : (dg (nv l')).getD i 0 < 4294967296 := (dg_lim (nv l')).getD i
          repeat first | refine And.intro rfl ?_ | refine Or.inl (And.intro rfl ?_) | refine Or.inr (And.intro rfl ?_) | refine And.intro (fun (_ : true = true) => ?_) (fun (h : true = false) => Bool.noConfusion h) | refine And.intro (fun (h : false = true) => Bool.noConfusion h) (fun (_ : false = false) => ?_)
          refine And.intro (show 0 ≤ (i : Int) ∧ (i : Int) < (dg (nv l)).length by omega) ?_
          repeat first | refine And.intro rfl ?_ | refine Or.inl (And.intro rfl ?_) | refine Or.inr (And.intro rfl ?_) | refine And.intro (fun (_ : true = true) => ?_) (fun (h : true = false) => Bool.noConfusion h) | refine And.intro (fun (h : false = true) => Bool.noConfusion h) (fun (_ : false = false) => ?_)
          refine And.intro (fun hd => ?_) (fun hd => ?_)
          · have hd' : (i : Int) < (dg (nv l')).length := of_decide_eq_true hd
            have ed : IntKind.u64.wrap (IntKind.u64.wrap (IntKind.u64.wrap (((dg (nv l)).getD (i : Int).toNat 0 : Nat) : Int) - (b : Nat)) - IntKind.u64.wrap (((dg (nv l')).getD (i : Int).toNat 0 : Nat) : Int)) = (((dg (nv l)).getD i 0 : Nat) - (b : Nat) - ((dg (nv l')).getD i 0 : Nat) : Int) % 18446744073709551616 := by
              simp only [wU64, Int.toNat_natCast]
              omega
            repeat first | refine And.intro rfl ?_ | refine Or.inl (And.intro rfl ?_) | refine Or.inr (And.intro rfl ?_) | refine And.intro (fun (_ : true = true) => ?_) (fun (h : true = false) => Bool.noConfusion h) | refine And.intro (fun (h : false = true) => Bool.noConfusion h) (fun (_ : false = false) => ?_)
            refine And.intro (show 0 ≤ (i : Int) ∧ (i : Int) < (dg (nv l')).length by omega) ?_
            have e32 : IntKind.u32.wrap (IntKind.u64.wrap (IntKind.u64.wrap (IntKind.u64.wrap (((dg (nv l)).getD (i : Int).toNat 0 : Nat) : Int) - (b : Nat)) - IntKind.u64.wrap (((dg (nv l')).getD (i : Int).toNat 0 : Nat) : Int))) = ((((((dg (nv l)).getD i 0 : Nat) - (b : Nat) - ((dg (nv l')).getD i 0 : Nat) : Int) % 4294967296).toNat : Nat) : Int) := by rw [ed, wU32]; omega
            have eb : Int.fdiv (IntKind.u64.wrap (IntKind.u64.wrap (IntKind.u64.wrap (((dg (nv l)).getD (i : Int).toNat 0 : Nat) : Int) - (b : Nat)) - IntKind.u64.wrap (((dg (nv l')).getD (i : Int).toNat 0 : Nat) : Int))) (2 ^ min (63 : Int).toNat IntKind.u64.bits) = (((-((((dg (nv l)).getD i 0 : Nat) - (b : Nat) - ((dg (nv l')).getD i 0 : Nat) : Int) / 4294967296)).toNat : Nat) : Int) := by rw [ed, fdiv63]; omega
            repeat first | refine And.intro rfl ?_ | refine Or.inl (And.intro rfl ?_) | refine Or.inr (And.intro rfl ?_) | refine And.intro (fun (_ : true = true) => ?_) (fun (h : true = false) => Bool.noConfusion h) | refine And.intro (fun (h : false = true) => Bool.noConfusion h) (fun (_ : false = false) => ?_)
            refine And.intro (show 0 ≤ (i : Int) ∧ (i : Int) < (out ++ List.replicate ((dg (nv l)).length - i) 0).length by rw [hrl]; omega) ?_
            repeat first | refine And.intro rfl ?_ | refine Or.inl (And.intro rfl ?_) | refine Or.inr (And.intro rfl ?_) | refine And.intro (fun (_ : true = true) => ?_) (fun (h : true = false) => Bool.noConfusion h) | refine And.intro (fun (h : false = true) => Bool.noConfusion h) (fun (_ : false = false) => ?_)
            refine And.intro (show (i : Int).toNat < (out ++ List.replicate ((dg (nv l)).length - i) 0).length ∧ 0 ≤ IntKind.u32.wrap (IntKind.u64.wrap (IntKind.u64.wrap (IntKind.u64.wrap (((dg (nv l)).getD (i : Int).toNat 0 : Nat) : Int) - (b : Nat)) - IntKind.u64.wrap (((dg (nv l')).getD (i : Int).toNat 0 : Nat) : Int))) ∧ IntKind.u32.wrap (IntKind.u64.wrap (IntKind.u64.wrap (IntKind.u64.wrap (((dg (nv l)).getD (i : Int).toNat 0 : Nat) : Int) - (b : Nat)) - IntKind.u64.wrap (((dg (nv l')).getD (i : Int).toNat 0 : Nat) : Int))) < 4294967296 by rw [hrl, e32]; omega) ?_
            repeat first | refine And.intro rfl ?_ | refine Or.inl (And.intro rfl ?_) | refine Or.inr (And.intro rfl ?_) | refine And.intro (fun (_ : true = true) => ?_) (fun (h : true = false) => Bool.noConfusion h) | refine And.intro (fun (h : false = true) => Bool.noConfusion h) (fun (_ : false = false) => ?_)
            refine And.intro (show 0 ≤ (63 : Int) by decide) ?_
            repeat first | refine And.intro rfl ?_ | refine Or.inl (And.intro rfl ?_) | refine Or.inr (And.intro rfl ?_) | refine And.intro (fun (_ : true = true) => ?_) (fun (h : true = false) => Bool.noConfusion h) | refine And.intro (fun (h : false = true) => Bool.noConfusion h) (fun (_ : false = false) => ?_)
            refine Exists.intro ⟨(i + 1, (-((((dg (nv l)).getD i 0 : Nat) - (b : Nat) - ((dg (nv l')).getD i 0 : Nat) : Int) / 4294967296)).toNat, out ++ [((((dg (nv l)).getD i 0 : Nat) - (b : Nat) - ((dg (nv l')).getD i 0 : Nat) : Int) % 4294967296).toNat]), (show i + 1 ≤ _ by omega), (show (-((((dg (nv l)).getD i 0 : Nat) - (b : Nat) - ((dg (nv l')).getD i 0 : Nat) : Int) / 4294967296)).toNat ≤ 1 by omega), hlo.append (Lim.cons (show ((((dg (nv l)).getD i 0 : Nat) - (b : Nat) - ((dg (nv l')).getD i 0 : Nat) : Int) % 4294967296).toNat < 4294967296 by omega) Lim.nil), (show (out ++ [_]).length = i + 1 by simp [hol]), sub_step hol hinv rfl rfl (show ((((dg (nv l)).getD i 0 : Nat) - (b : Nat) - ((dg (nv l')).getD i 0 : Nat) : Int) % 4294967296).toNat + (dg (nv l')).getD i 0 + b = (dg (nv l)).getD i 0 + 4294967296 * (-((((dg (nv l)).getD i 0 : Nat) - (b : Nat) - ((dg (nv l')).getD i 0 : Nat) : Int) / 4294967296)).toNat by omega)⟩ (And.intro (show (dg (nv l)).length - (i + 1) < (dg (nv l)).length - i by omega) ?_)
            repeat first | exact trivial | refine And.intro rfl ?_ | refine And.intro trivial ?_ | refine And.intro (And.intro rfl trivial) ?_ | refine And.intro (And.intro rfl (And.intro rfl trivial)) ?_
            · refine And.intro (And.intro (rwN ?_) trivial) ?_
              · show (out ++ List.replicate ((dg (nv l)).length - i) 0).set i (IntKind.u32.wrap (IntKind.u64.wrap (IntKind.u64.wrap (IntKind.u64.wrap (((dg (nv l)).getD (i : Int).toNat 0 : Nat) : Int) - (b : Nat)) - IntKind.u64.wrap (((dg (nv l')).getD (i : Int).toNat 0 : Nat) : Int)))).toNat = (out ++ [((((dg (nv l)).getD i 0 : Nat) - (b : Nat) - ((dg (nv l')).getD i 0 : Nat) : Int) % 4294967296).toNat]) ++ List.replicate ((dg (nv l)).length - (i + 1)) 0
                rw [e32, Int.toNat_natCast]
                subst hol
                exact set_mid out _ _ (by omega)
              · repeat first | exact trivial | refine And.intro rfl ?_ | refine And.intro trivial ?_ | refine And.intro (And.intro rfl trivial) ?_ | refine And.intro (And.intro rfl (And.intro rfl trivial)) ?_
                refine And.intro (avI eb) ?_
                repeat first | exact trivial | refine And.intro rfl ?_ | refine And.intro trivial ?_ | refine And.intro (And.intro rfl trivial) ?_ | refine And.intro (And.intro rfl (And.intro rfl trivial)) ?_
                exact And.intro (avI (show IntKind.i64.wrap ((i : Int) + 1) = ((i + 1 : Nat) : Int) by rw [wI (by omega) (by omega)]; omega)) trivial
          · have hd' : ¬ (i : Int) < (dg (nv l')).length := of_decide_eq_false hd
            have hz := getD_end (dg (nv l')) i (by omega)
            have ed : IntKind.u64.wrap (IntKind.u64.wrap (((dg (nv l)).getD (i : Int).toNat 0 : Nat) : Int) - (b : Nat)) = (((dg (nv l)).getD i 0 : Nat) - (b : Nat) - ((dg (nv l')).getD i 0 : Nat) : Int) % 18446744073709551616 := by
              simp only [wU64, Int.toNat_natCast]
              omega
            have e32 : IntKind.u32.wrap (IntKind.u64.wrap (IntKind.u64.wrap (((dg (nv l)).getD (i : Int).toNat 0 : Nat) : Int) - (b : Nat))) = ((((((dg (nv l)).getD i 0 : Nat) - (b : Nat) - ((dg (nv l')).getD i 0 : Nat) : Int) % 4294967296).toNat : Nat) : Int) := by rw [ed, wU32]; omega
            have eb : Int.fdiv (IntKind.u64.wrap (IntKind.u64.wrap (((dg (nv l)).getD (i : Int).toNat 0 : Nat) : Int) - (b : Nat))) (2 ^ min (63 : Int).toNat IntKind.u64.bits) = (((-((((dg (nv l)).getD i 0 : Nat) - (b : Nat) - ((dg (nv l')).getD i 0 : Nat) : Int) / 4294967296)).toNat : Nat) : Int) := by rw [ed, fdiv63]; omega
            repeat first | refine And.intro rfl ?_ | refine Or.inl (And.intro rfl ?_) | refine Or.inr (And.intro rfl ?_) | refine And.intro (fun (_ : true = true) => ?_) (fun (h : true = false) => Bool.noConfusion h) | refine And.intro (fun (h : false = true) => Bool.noConfusion h) (fun (_ : false = false) => ?_)
            refine And.intro (show 0 ≤ (i : Int) ∧ (i : Int) < (out ++ List.replicate ((dg (nv l)).length - i) 0).length by rw [hrl]; omega) ?_
            repeat first | refine And.intro rfl ?_ | refine Or.inl (And.intro rfl ?_) | refine Or.inr (And.intro rfl ?_) | refine And.intro (fun (_ : true = true) => ?_) (fun (h : true = false) => Bool.noConfusion h) | refine And.intro (fun (h : false = true) => Bool.noConfusion h) (fun (_ : false = false) => ?_)
            refine And.intro (show (i : Int).toNat < (out ++ List.replicate ((dg (nv l)).length - i) 0).length ∧ 0 ≤ IntKind.u32.wrap (IntKind.u64.wrap (IntKind.u64.wrap (((dg (nv l)).getD (i : Int).toNat 0 : Nat) : Int) - (b : Nat))) ∧ IntKind.u32.wrap (IntKind.u64.wrap (IntKind.u64.wrap (((dg (nv l)).getD (i : Int).toNat 0 : Nat) : Int) - (b : Nat))) < 4294967296 by rw [hrl, e32]; omega) ?_
            repeat first | refine And.intro rfl ?_ | refine Or.inl (And.intro rfl ?_) | refine Or.inr (And.intro rfl ?_) | refine And.intro (fun (_ : true = true) => ?_) (fun (h : true = false) => Bool.noConfusion h) | refine And.intro (fun (h : false = true) => Bool.noConfusion h) (fun (_ : false = false) => ?_)
            refine And.intro (show 0 ≤ (63 : Int) by decide) ?_
            repeat first | refine And.intro rfl ?_ | refine Or.inl (And.intro rfl ?_) | refine Or.inr (And.intro rfl ?_) | refine And.intro (fun (_ : true = true) => ?_) (fun (h : true = false) => Bool.noConfusion h) | refine And.intro (fun (h : false = true) => Bool.noConfusion h) (fun (_ : false = false) => ?_)
            refine Exists.intro ⟨(i + 1, (-((((dg (nv l)).getD i 0 : Nat) - (b : Nat) - ((dg (nv l')).getD i 0 : Nat) : Int) / 4294967296)).toNat, out ++ [((((dg (nv l)).getD i 0 : Nat) - (b : Nat) - ((dg (nv l')).getD i 0 : Nat) : Int) % 4294967296).toNat]), (show i + 1 ≤ _ by omega), (show (-((((dg (nv l)).getD i 0 : Nat) - (b : Nat) - ((dg (nv l')).getD i 0 : Nat) : Int) / 4294967296)).toNat ≤ 1 by omega), hlo.append (Lim.cons (show ((((dg (nv l)).getD i 0 : Nat) - (b : Nat) - ((dg (nv l')).getD i 0 : Nat) : Int) % 4294967296).toNat < 4294967296 by omega) Lim.nil), (show (out ++ [_]).length = i + 1 by simp [hol]), sub_step hol hinv rfl rfl (show ((((dg (nv l)).getD i 0 : Nat) - (b : Nat) - ((dg (nv l')).getD i 0 : Nat) : Int) % 4294967296).toNat + (dg (nv l')).getD i 0 + b = (dg (nv l)).getD i 0 + 4294967296 * (-((((dg (nv l)).getD i 0 : Nat) - (b : Nat) - ((dg (nv l')).getD i 0 : Nat) : Int) / 4294967296)).toNat by omega)⟩ (And.intro (show (dg (nv l)).length - (i + 1) < (dg (nv l)).length - i by omega) ?_)
            repeat first | exact trivial | refine And.intro rfl ?_ | refine And.intro trivial ?_ | refine And.intro (And.intro rfl trivial) ?_ | refine And.intro (And.intro rfl (And.intro rfl trivial)) ?_
            · refine And.intro (And.intro (rwN ?_) trivial) ?_
              · show (out ++ List.replicate ((dg (nv l)).length - i) 0).set i (IntKind.u32.wrap (IntKind.u64.wrap (IntKind.u64.wrap (((dg (nv l)).getD (i : Int).toNat 0 : Nat) : Int) - (b : Nat)))).toNat = (out ++ [((((dg (nv l)).getD i 0 : Nat) - (b : Nat) - ((dg (nv l')).getD i 0 : Nat) : Int) % 4294967296).toNat]) ++ List.replicate ((dg (nv l)).length - (i + 1)) 0
                rw [e32, Int.toNat_natCast]
                subst hol
                exact set_mid out _ _ (by omega)
              · repeat first | exact trivial | refine And.intro rfl ?_ | refine And.intro trivial ?_ | refine And.intro (And.intro rfl trivial) ?_ | refine And.intro (And.intro rfl (And.intro rfl trivial)) ?_
                refine And.intro (avI eb) ?_
                repeat first | exact trivial | refine And.intro rfl ?_ | refine And.intro trivial ?_ | refine And.intro (And.intro rfl trivial) ?_ | refine And.intro (And.intro rfl (And.intro rfl trivial)) ?_
                exact And.intro (avI (show IntKind.i64.wrap ((i : Int) + 1) = ((i + 1 : Nat) : Int) by rw [wI (by omega) (by omega)]; omega)) trivial
        · have hi' : ¬ (i : Int) < (dg (nv l)).length := of_decide_eq_false hc
          have hi2 : i = (dg (nv l)).length := by omega
          repeat first | refine And.intro rfl ?_ | refine Or.inl (And.intro rfl ?_) | refine Or.inr (And.intro rfl ?_) | refine And.intro (fun (_ : true = true) => ?_) (fun (h : true = false) => Bool.noConfusion h) | refine And.intro (fun (h : false = true) => Bool.noConfusion h) (fun (_ : false = false) => ?_)
          refine And.intro (show (out ++ List.replicate ((dg (nv l)).length - i) 0).length ≤ 1000000 by rw [hrl]; omega) ?_
          refine resT (congrArg dg ?_) (by simp; omega)
          show nv (out ++ List.replicate ((dg (nv l)).length - i) 0) = nv l - nv l'
          rw [take_end _ _ (by omega), take_end _ _ (by omega), nv_dg, nv_dg] at hinv
          rw [nv_append, nv_replicate, Nat.mul_zero, Nat.add_zero]
          have h3 := nv_lt hlo
          rw [hol] at h3
          rcases Nat.eq_zero_or_pos b with h0 | h0
          · subst h0
            omega
          · have : b = 1 := by omega
            subst this
            omega
  · cases h

end Go.Gm

/-
  The natural numbers of the program, part F: Mul. Plain theorems; no condition.
-/
namespace Go.Gm
open Go.Proofs

theorem nv_set (l : List Nat) (j v : Nat) (hj : j < l.length) : nv (l.set j v) + B ^ j * l.getD j 0 = nv l + B ^ j * v := by
  induction l generalizing j with
  | nil => simp at hj
  | cons x l ih =>
    cases j with
    | zero => simp [nv]; omega
    | succ j =>
      have := ih j (by simpa using hj)
      simp only [List.set_cons_succ, nv, List.getD_cons_succ, Nat.pow_succ]
      have e := congrArg (fun z => B * z) this
      simp only [Nat.mul_add] at e
      have e1 : B ^ j * B * l.getD j 0 = B * (B ^ j * l.getD j 0) := by rw [Nat.mul_comm (B ^ j) B, Nat.mul_assoc]
      have e2 : B ^ j * B * v = B * (B ^ j * v) := by rw [Nat.mul_comm (B ^ j) B, Nat.mul_assoc]
      rw [e1, e2]
      omega

/-- One step of the inner loop of a multiplication. -/
theorem mul_step {r q : List Nat} {r0 i k c x : Nat} (hj : i + k < r.length) (h : nv r + B ^ (i + k) * c = r0 + B ^ i * x * nv (q.take k)) (t : Nat) (ht : t = c + (x * q.getD k 0 + r.getD (i + k) 0)) :
    nv (r.set (i + k) (t % B)) + B ^ (i + (k + 1)) * (t / B) = r0 + B ^ i * x * nv (q.take (k + 1)) := by
  have h1 := nv_set r (i + k) (t % B) hj
  have e := congrArg (fun z => B ^ (i + k) * z) (Nat.mod_add_div t B)
  simp only [Nat.mul_add] at e
  rw [← Nat.mul_assoc, ← Nat.pow_succ] at e
  rw [nv_take_getD', Nat.mul_add, show i + (k + 1) = (i + k).succ from rfl]
  have e3 : B ^ i * x * (B ^ k * q.getD k 0) = B ^ (i + k) * (x * q.getD k 0) := by
    rw [Nat.pow_add]
    simp only [Nat.mul_assoc, Nat.mul_left_comm, Nat.mul_comm]
  rw [e3]
  have e4 := congrArg (fun z => B ^ (i + k) * z) ht
  simp only [Nat.mul_add] at e4
  omega

theorem getD_app (r s : List Nat) (j : Nat) (hj : j < r.length) : (r ++ s).getD j 0 = r.getD j 0 := by
  simp only [List.getD_eq_getElem?_getD, List.getElem?_append_left hj]

def sMul : List RV → Option (Prop × Res)
  | [.one (.b (.nat l)), .one (.b (.nat l'))] => some (l.length ≤ 100000 ∧ l'.length ≤ 100000, .r (.one (.nat (dg (nv l * nv l')))))
  | _ => none

set_option maxHeartbeats 1000000 in
theorem ok_natMul : Ok1 134 sMul := by
  refine ok_of TD0_ok Try.func134 rfl (by kernel_rfl) ?_
  intro xs pre res h hp hlim
  unfold sMul at h
  split at h
  · rename_i l l'
    cases h
    obtain ⟨hl, hl', _⟩ := hlim
    have hl : Lim l := hl
    have hl' : Lim l' := hl'
    have hd := dg_nv_len hl
    have hd' := dg_nv_len hl'
    have hw : IntKind.i64.wrap (((dg (nv l)).length : Int) + ((dg (nv l')).length : Int)) = (((dg (nv l)).length + (dg (nv l')).length : Nat) : Int) := by rw [wI (by omega) (by omega)]; omega
    refine And.intro (Nat.le_of_ble_eq_true rfl) ?_
    repeat first | refine And.intro rfl ?_ | refine Or.inl (And.intro rfl ?_) | refine Or.inr (And.intro rfl ?_) | refine And.intro (fun (_ : true = true) => ?_) (fun (h : true = false) => Bool.noConfusion h) | refine And.intro (fun (h : false = true) => Bool.noConfusion h) (fun (_ : false = false) => ?_)
    refine And.intro (show l.length ≤ 1000000 by omega) ?_
    repeat first | refine And.intro rfl ?_ | refine Or.inl (And.intro rfl ?_) | refine Or.inr (And.intro rfl ?_) | refine And.intro (fun (_ : true = true) => ?_) (fun (h : true = false) => Bool.noConfusion h) | refine And.intro (fun (h : false = true) => Bool.noConfusion h) (fun (_ : false = false) => ?_)
    refine And.intro (show l'.length ≤ 1000000 by omega) ?_
    repeat first | refine And.intro rfl ?_ | refine Or.inl (And.intro rfl ?_) | refine Or.inr (And.intro rfl ?_) | refine And.intro (fun (_ : true = true) => ?_) (fun (h : true = false) => Bool.noConfusion h) | refine And.intro (fun (h : false = true) => Bool.noConfusion h) (fun (_ : false = false) => ?_)
    refine And.intro (show 0 ≤ IntKind.i64.wrap (((dg (nv l)).length : Int) + ((dg (nv l')).length : Int)) ∧ IntKind.i64.wrap (((dg (nv l)).length : Int) + ((dg (nv l')).length : Int)) ≤ IntKind.i64.wrap (((dg (nv l)).length : Int) + ((dg (nv l')).length : Int)) ∧ IntKind.i64.wrap (((dg (nv l)).length : Int) + ((dg (nv l')).length : Int)) ≤ 1000000 by rw [hw]; omega) ?_
    repeat first | refine And.intro rfl ?_ | refine Or.inl (And.intro rfl ?_) | refine Or.inr (And.intro rfl ?_) | refine And.intro (fun (_ : true = true) => ?_) (fun (h : true = false) => Bool.noConfusion h) | refine And.intro (fun (h : false = true) => Bool.noConfusion h) (fun (_ : false = false) => ?_)
    refine Exists.intro {s : Nat × List Nat // s.1 ≤ (dg (nv l)).length ∧ Lim s.2 ∧ s.2.length = s.1 + (dg (nv l')).length ∧ nv s.2 = nv ((dg (nv l)).take s.1) * nv l'} (Exists.intro (fun s => ⟨[(0, .one (.nat (dg (nv l)))), (1, .one (.nat (dg (nv l')))), (5, .own 0), (21, .one (.nat (dg (nv l)))), (22, .val (.int .i64 ((dg (nv l)).length : Nat))), (23, .val (.int .i64 (s.1.1 : Nat)))], ⟨[], [.n 128 (s.1.2 ++ List.replicate ((dg (nv l)).length - s.1.1) 0)]⟩⟩) (Exists.intro (fun s => (dg (nv l)).length - s.1.1) (Exists.intro ⟨(0, List.replicate (dg (nv l')).length 0), by simp [nv_replicate, Lim.replicate, nv]⟩ (And.intro ?_ ?_))))
    · repeat first | exact trivial | refine And.intro rfl ?_ | refine And.intro trivial ?_ | refine And.intro (And.intro rfl trivial) ?_ | refine And.intro (And.intro rfl (And.intro rfl trivial)) ?_
      refine And.intro (And.intro (rwN ?_) trivial) ?_
      · show List.replicate (IntKind.i64.wrap (((dg (nv l)).length : Int) + ((dg (nv l')).length : Int))).toNat 0 = List.replicate (dg (nv l')).length 0 ++ List.replicate ((dg (nv l)).length - 0) 0
        rw [hw, Int.toNat_natCast, List.replicate_append_replicate]
        congr 1
        omega
      · repeat first | exact trivial | refine And.intro rfl ?_ | refine And.intro trivial ?_ | refine And.intro (And.intro rfl trivial) ?_ | refine And.intro (And.intro rfl (And.intro rfl trivial)) ?_
    · rintro ⟨⟨i, rr⟩, hi, hlr, hrl, hinv⟩
      simp only at hi hlr hrl hinv
      repeat first | refine And.intro rfl ?_ | refine Or.inl (And.intro rfl ?_) | refine Or.inr (And.intro rfl ?_) | refine And.intro (fun (_ : true = true) => ?_) (fun (h : true = false) => Bool.noConfusion h) | refine And.intro (fun (h : false = true) => Bool.noConfusion h) (fun (_ : false = false) => ?_)
      refine And.intro (fun hc => ?_) (fun hc => ?_)
      · have hi' : (i : Int) < (dg (nv l)).length := of_decide_eq_true hc
        have hx : (dg (nv l)).getD i 0 < 4294967296 := (dg_lim (nv l)).getD i
        repeat first | refine And.intro rfl ?_ | refine Or.inl (And.intro rfl ?_) | refine Or.inr (And.intro rfl ?_) | refine And.intro (fun (_ : true = true) => ?_) (fun (h : true = false) => Bool.noConfusion h) | refine And.intro (fun (h : false = true) => Bool.noConfusion h) (fun (_ : false = false) => ?_)
        refine And.intro (show 0 ≤ (i : Int) ∧ (i : Int) < (dg (nv l)).length by omega) ?_
        repeat first | refine And.intro rfl ?_ | refine Or.inl (And.intro rfl ?_) | refine Or.inr (And.intro rfl ?_) | refine And.intro (fun (_ : true = true) => ?_) (fun (h : true = false) => Bool.noConfusion h) | refine And.intro (fun (h : false = true) => Bool.noConfusion h) (fun (_ : false = false) => ?_)
        refine Exists.intro {s : Nat × Nat × List Nat // s.1 ≤ (dg (nv l')).length ∧ s.2.1 < 4294967296 ∧ Lim s.2.2 ∧ s.2.2.length = i + (dg (nv l')).length ∧ nv s.2.2 + B ^ (i + s.1) * s.2.1 = nv rr + B ^ i * (dg (nv l)).getD i 0 * nv ((dg (nv l')).take s.1)} (Exists.intro (fun s => ⟨[(0, .one (.nat (dg (nv l)))), (1, .one (.nat (dg (nv l')))), (5, .own 0), (6, .val (.int .i64 (i : Nat))), (7, .val (.int .u32 ((dg (nv l)).getD i 0 : Nat))), (8, .val (.int .u64 (s.1.2.1 : Nat))), (21, .one (.nat (dg (nv l)))), (22, .val (.int .i64 ((dg (nv l)).length : Nat))), (23, .val (.int .i64 (i : Nat))), (28, .one (.nat (dg (nv l')))), (29, .val (.int .i64 ((dg (nv l')).length : Nat))), (30, .val (.int .i64 (s.1.1 : Nat)))], ⟨[], [.n 128 (s.1.2.2 ++ List.replicate ((dg (nv l)).length - i) 0)]⟩⟩) (Exists.intro (fun s => (dg (nv l')).length - s.1.1) (Exists.intro ⟨(0, 0, rr), (show 0 ≤ _ from Nat.zero_le _), (show 0 < 4294967296 by decide), hlr, hrl, (by simp [nv])⟩ (And.intro ?_ ?_))))
        · repeat first | exact trivial | refine And.intro rfl ?_ | refine And.intro trivial ?_ | refine And.intro (And.intro rfl trivial) ?_ | refine And.intro (And.intro rfl (And.intro rfl trivial)) ?_
        · rintro ⟨⟨k, c, r⟩, hk, hc1, hlo, hol, hinv2⟩
          simp only at hk hc1 hlo hol hinv2
          have hrow : (r ++ List.replicate ((dg (nv l)).length - i) 0).length = (dg (nv l)).length + (dg (nv l')).length := by simp; omega
          repeat first | refine And.intro rfl ?_ | refine Or.inl (And.intro rfl ?_) | refine Or.inr (And.intro rfl ?_) | refine And.intro (fun (_ : true = true) => ?_) (fun (h : true = false) => Bool.noConfusion h) | refine And.intro (fun (h : false = true) => Bool.noConfusion h) (fun (_ : false = false) => ?_)
          refine And.intro (fun hc => ?_) (fun hc => ?_)
          · have hk' : (k : Int) < (dg (nv l')).length := of_decide_eq_true hc
            have hy : (dg (nv l')).getD k 0 < 4294967296 := (dg_lim (nv l')).getD k
            have hz : (dg (nv l)).getD i 0 * (dg (nv l')).getD k 0 ≤ 4294967295 * 4294967295 := Nat.mul_le_mul (by omega) (by omega)
            have ho : r.getD (i + k) 0 < 4294967296 := hlo.getD (i + k)
            have hik : IntKind.i64.wrap ((i : Int) + (k : Int)) = ((i + k : Nat) : Int) := by rw [wI (by omega) (by omega)]; omega
            obtain ⟨T, hT⟩ : ∃ T, T = c + ((dg (nv l)).getD i 0 * (dg (nv l')).getD k 0 + r.getD (i + k) 0) := ⟨_, rfl⟩
            have hT1 : T < 18446744073709551616 := by omega
            have e32 : IntKind.u32.wrap ((T : Nat) : Int) = ((T % 4294967296 : Nat) : Int) := by rw [wU32]; omega
            have ec : IntKind.u64.wrap ((c : Int) + IntKind.u64.wrap (IntKind.u64.wrap (IntKind.u64.wrap (((dg (nv l)).getD i 0 : Nat) : Int) * IntKind.u64.wrap (((dg (nv l')).getD (k : Int).toNat 0 : Nat) : Int)) + IntKind.u64.wrap (((r ++ List.replicate ((dg (nv l)).length - i) 0).getD (IntKind.i64.wrap ((i : Int) + (k : Int))).toNat 0 : Nat) : Int))) = ((T : Nat) : Int) := by
              rw [hT, hik, Int.toNat_natCast, Int.toNat_natCast, getD_app _ _ _ (by omega)]
              rw [wU (x := (((dg (nv l)).getD i 0 : Nat) : Int)) (by omega) (by omega), wU (x := (((dg (nv l')).getD k 0 : Nat) : Int)) (by omega) (by omega), ← Int.natCast_mul]
              simp only [wU64]
              generalize (dg (nv l)).getD i 0 * (dg (nv l')).getD k 0 = z at *
              omega
            repeat first | refine And.intro rfl ?_ | refine Or.inl (And.intro rfl ?_) | refine Or.inr (And.intro rfl ?_) | refine And.intro (fun (_ : true = true) => ?_) (fun (h : true = false) => Bool.noConfusion h) | refine And.intro (fun (h : false = true) => Bool.noConfusion h) (fun (_ : false = false) => ?_)
            refine And.intro (show 0 ≤ (k : Int) ∧ (k : Int) < (dg (nv l')).length by omega) ?_
            repeat first | refine And.intro rfl ?_ | refine Or.inl (And.intro rfl ?_) | refine Or.inr (And.intro rfl ?_) | refine And.intro (fun (_ : true = true) => ?_) (fun (h : true = false) => Bool.noConfusion h) | refine And.intro (fun (h : false = true) => Bool.noConfusion h) (fun (_ : false = false) => ?_)
            refine And.intro (show 0 ≤ IntKind.i64.wrap ((i : Int) + (k : Int)) ∧ IntKind.i64.wrap ((i : Int) + (k : Int)) < (r ++ List.replicate ((dg (nv l)).length - i) 0).length by rw [hik, hrow]; omega) ?_
            repeat first | refine And.intro rfl ?_ | refine Or.inl (And.intro rfl ?_) | refine Or.inr (And.intro rfl ?_) | refine And.intro (fun (_ : true = true) => ?_) (fun (h : true = false) => Bool.noConfusion h) | refine And.intro (fun (h : false = true) => Bool.noConfusion h) (fun (_ : false = false) => ?_)
            refine And.intro (show (IntKind.i64.wrap ((i : Int) + (k : Int))).toNat < (r ++ List.replicate ((dg (nv l)).length - i) 0).length by rw [hik, hrow]; omega) ?_
            repeat first | refine And.intro rfl ?_ | refine Or.inl (And.intro rfl ?_) | refine Or.inr (And.intro rfl ?_) | refine And.intro (fun (_ : true = true) => ?_) (fun (h : true = false) => Bool.noConfusion h) | refine And.intro (fun (h : false = true) => Bool.noConfusion h) (fun (_ : false = false) => ?_)
            refine And.intro (show 0 ≤ IntKind.i64.wrap ((i : Int) + (k : Int)) ∧ IntKind.i64.wrap ((i : Int) + (k : Int)) < (r ++ List.replicate ((dg (nv l)).length - i) 0).length by rw [hik, hrow]; omega) ?_
            repeat first | refine And.intro rfl ?_ | refine Or.inl (And.intro rfl ?_) | refine Or.inr (And.intro rfl ?_) | refine And.intro (fun (_ : true = true) => ?_) (fun (h : true = false) => Bool.noConfusion h) | refine And.intro (fun (h : false = true) => Bool.noConfusion h) (fun (_ : false = false) => ?_)
            refine And.intro (show (IntKind.i64.wrap ((i : Int) + (k : Int))).toNat < (r ++ List.replicate ((dg (nv l)).length - i) 0).length ∧ 0 ≤ IntKind.u32.wrap _ ∧ IntKind.u32.wrap _ < 4294967296 by rw [ec, e32, hik, hrow]; omega) ?_
            repeat first | refine And.intro rfl ?_ | refine Or.inl (And.intro rfl ?_) | refine Or.inr (And.intro rfl ?_) | refine And.intro (fun (_ : true = true) => ?_) (fun (h : true = false) => Bool.noConfusion h) | refine And.intro (fun (h : false = true) => Bool.noConfusion h) (fun (_ : false = false) => ?_)
            refine And.intro (show 0 ≤ (32 : Int) by decide) ?_
            repeat first | refine And.intro rfl ?_ | refine Or.inl (And.intro rfl ?_) | refine Or.inr (And.intro rfl ?_) | refine And.intro (fun (_ : true = true) => ?_) (fun (h : true = false) => Bool.noConfusion h) | refine And.intro (fun (h : false = true) => Bool.noConfusion h) (fun (_ : false = false) => ?_)
            refine Exists.intro ⟨(k + 1, T / 4294967296, r.set (i + k) (T % 4294967296)), (show k + 1 ≤ _ by omega), (show T / 4294967296 < 4294967296 by omega), hlo.set (i + k) (show T % 4294967296 < 4294967296 by omega), (show (r.set _ _).length = _ by rw [List.length_set]; exact hol), mul_step (by omega) hinv2 T hT⟩ (And.intro (show (dg (nv l')).length - (k + 1) < (dg (nv l')).length - k by omega) ?_)
            repeat first | exact trivial | refine And.intro rfl ?_ | refine And.intro trivial ?_ | refine And.intro (And.intro rfl trivial) ?_ | refine And.intro (And.intro rfl (And.intro rfl trivial)) ?_
            refine And.intro (And.intro (rwN ?_) trivial) ?_
            · show (r ++ List.replicate ((dg (nv l)).length - i) 0).set (IntKind.i64.wrap ((i : Int) + (k : Int))).toNat (IntKind.u32.wrap _).toNat = r.set (i + k) (T % 4294967296) ++ List.replicate ((dg (nv l)).length - i) 0
              rw [ec, e32, hik, Int.toNat_natCast, Int.toNat_natCast, List.set_append_left _ _ (by omega)]
            · repeat first | exact trivial | refine And.intro rfl ?_ | refine And.intro trivial ?_ | refine And.intro (And.intro rfl trivial) ?_ | refine And.intro (And.intro rfl (And.intro rfl trivial)) ?_
              refine And.intro (avI (show Int.fdiv (IntKind.u64.wrap _) (2 ^ min (32 : Int).toNat IntKind.u64.bits) = ((T / 4294967296 : Nat) : Int) by rw [ec, fdiv32]; omega)) ?_
              repeat first | exact trivial | refine And.intro rfl ?_ | refine And.intro trivial ?_ | refine And.intro (And.intro rfl trivial) ?_ | refine And.intro (And.intro rfl (And.intro rfl trivial)) ?_
              exact And.intro (avI (show IntKind.i64.wrap ((k : Int) + 1) = ((k + 1 : Nat) : Int) by rw [wI (by omega) (by omega)]; omega)) trivial
          · have hk' : ¬ (k : Int) < (dg (nv l')).length := of_decide_eq_false hc
            have hkm : k = (dg (nv l')).length := by omega
            have him : IntKind.i64.wrap ((i : Int) + ((dg (nv l')).length : Int)) = ((i + (dg (nv l')).length : Nat) : Int) := by rw [wI (by omega) (by omega)]; omega
            have e32 : IntKind.u32.wrap ((c : Nat) : Int) = ((c : Nat) : Int) := by rw [wU32]; omega
            repeat first | refine And.intro rfl ?_ | refine Or.inl (And.intro rfl ?_) | refine Or.inr (And.intro rfl ?_) | refine And.intro (fun (_ : true = true) => ?_) (fun (h : true = false) => Bool.noConfusion h) | refine And.intro (fun (h : false = true) => Bool.noConfusion h) (fun (_ : false = false) => ?_)
            refine And.intro (show 0 ≤ IntKind.i64.wrap ((i : Int) + ((dg (nv l')).length : Int)) ∧ IntKind.i64.wrap ((i : Int) + ((dg (nv l')).length : Int)) < (r ++ List.replicate ((dg (nv l)).length - i) 0).length by rw [him, hrow]; omega) ?_
            repeat first | refine And.intro rfl ?_ | refine Or.inl (And.intro rfl ?_) | refine Or.inr (And.intro rfl ?_) | refine And.intro (fun (_ : true = true) => ?_) (fun (h : true = false) => Bool.noConfusion h) | refine And.intro (fun (h : false = true) => Bool.noConfusion h) (fun (_ : false = false) => ?_)
            refine And.intro (show (IntKind.i64.wrap ((i : Int) + ((dg (nv l')).length : Int))).toNat < (r ++ List.replicate ((dg (nv l)).length - i) 0).length ∧ 0 ≤ IntKind.u32.wrap ((c : Nat) : Int) ∧ IntKind.u32.wrap ((c : Nat) : Int) < 4294967296 by rw [e32, him, hrow]; omega) ?_
            repeat first | refine And.intro rfl ?_ | refine Or.inl (And.intro rfl ?_) | refine Or.inr (And.intro rfl ?_) | refine And.intro (fun (_ : true = true) => ?_) (fun (h : true = false) => Bool.noConfusion h) | refine And.intro (fun (h : false = true) => Bool.noConfusion h) (fun (_ : false = false) => ?_)
            refine Exists.intro ⟨(i + 1, r ++ [c]), (show i + 1 ≤ _ by omega), hlo.append (Lim.cons hc1 Lim.nil), (show (r ++ [c]).length = _ by simp; omega), ?_⟩ (And.intro (show (dg (nv l)).length - (i + 1) < (dg (nv l)).length - i by omega) ?_)
            · show nv (r ++ [c]) = nv ((dg (nv l)).take (i + 1)) * nv l'
              rw [nv_snoc, hol, ← hkm, hinv2, take_end _ _ (by omega), nv_dg, hinv, nv_take_getD', Nat.add_mul]
            · repeat first | exact trivial | refine And.intro rfl ?_ | refine And.intro trivial ?_ | refine And.intro (And.intro rfl trivial) ?_ | refine And.intro (And.intro rfl (And.intro rfl trivial)) ?_
              refine And.intro (And.intro (rwN ?_) trivial) ?_
              · show (r ++ List.replicate ((dg (nv l)).length - i) 0).set (IntKind.i64.wrap ((i : Int) + ((dg (nv l')).length : Int))).toNat (IntKind.u32.wrap ((c : Nat) : Int)).toNat = (r ++ [c]) ++ List.replicate ((dg (nv l)).length - (i + 1)) 0
                rw [e32, him, Int.toNat_natCast, Int.toNat_natCast, ← hol, set_mid r _ _ (by omega)]
                congr 1
              · repeat first | exact trivial | refine And.intro rfl ?_ | refine And.intro trivial ?_ | refine And.intro (And.intro rfl trivial) ?_ | refine And.intro (And.intro rfl (And.intro rfl trivial)) ?_
                exact And.intro (avI (show IntKind.i64.wrap ((i : Int) + 1) = ((i + 1 : Nat) : Int) by rw [wI (by omega) (by omega)]; omega)) trivial
      · have hi' : ¬ (i : Int) < (dg (nv l)).length := of_decide_eq_false hc
        repeat first | refine And.intro rfl ?_ | refine Or.inl (And.intro rfl ?_) | refine Or.inr (And.intro rfl ?_) | refine And.intro (fun (_ : true = true) => ?_) (fun (h : true = false) => Bool.noConfusion h) | refine And.intro (fun (h : false = true) => Bool.noConfusion h) (fun (_ : false = false) => ?_)
        refine And.intro (show (rr ++ List.replicate ((dg (nv l)).length - i) 0).length ≤ 1000000 by simp; omega) ?_
        refine resN (congrArg dg ?_)
        show nv (rr ++ List.replicate ((dg (nv l)).length - i) 0) = nv l * nv l'
        rw [nv_append, nv_replicate, Nat.mul_zero, Nat.add_zero, hinv, take_end _ _ (by omega), nv_dg]
  · cases h

end Go.Gm

/-
  The natural numbers of the program, part G: division by one limb. Plain theorems; no condition.
-/
namespace Go.Gm
open Go.Proofs

theorem or_limb (r x : Nat) (hr : r < 4294967296) (hx : x < 4294967296) : bits .or .u64 (IntKind.u64.wrap ((r : Int) * 2 ^ min (32 : Int).toNat IntKind.u64.bits)) (IntKind.u64.wrap (x : Int)) = ((r * 4294967296 + x : Nat) : Int) := by
  have e1 : IntKind.u64.wrap ((r : Int) * 2 ^ min (32 : Int).toNat IntKind.u64.bits) = ((r * 4294967296 : Nat) : Int) := by
    rw [show (2 : Int) ^ min (32 : Int).toNat IntKind.u64.bits = 4294967296 by decide, wU64]
    omega
  have e2 : IntKind.u64.wrap (x : Int) = (x : Int) := by rw [wU64]; omega
  rw [e1, e2]
  have e3 : r * 4294967296 + x = r * 4294967296 ||| x := by
    have := Nat.shiftLeft_add_eq_or_of_lt (b := x) (i := 32) (by omega) r
    rwa [Nat.shiftLeft_eq] at this
  have hb : bits .or .u64 ((r * 4294967296 : Nat) : Int) (x : Int) = IntKind.u64.wrap ((BitVec.ofInt 64 ((r * 4294967296 : Nat) : Int) ||| BitVec.ofInt 64 (x : Int)).toNat : Int) := rfl
  rw [hb, BitVec.toNat_or, BitVec.ofInt_natCast, BitVec.ofInt_natCast, BitVec.toNat_ofNat, BitVec.toNat_ofNat, Nat.mod_eq_of_lt (by omega), Nat.mod_eq_of_lt (by omega), ← e3, wU64]
  omega

theorem nv_cons_drop (l : List Nat) (k : Nat) (h0 : 0 < k) (hk : k ≤ l.length) : nv (l.drop (k - 1)) = l.getD (k - 1) 0 + B * nv (l.drop k) := by
  rw [List.drop_eq_getElem_cons (i := k - 1) (by omega), List.getD_eq_getElem?_getD, List.getElem?_eq_getElem (by omega), show k - 1 + 1 = k by omega]
  rfl

theorem set_rep (out : List Nat) (k v : Nat) (hk : 0 < k) : (List.replicate k 0 ++ out).set (k - 1) v = List.replicate (k - 1) 0 ++ (v :: out) := by
  obtain ⟨m, rfl⟩ : ∃ m, k = m + 1 := ⟨k - 1, by omega⟩
  rw [List.replicate_succ', List.append_assoc, List.set_append_right _ _ (by simp)]
  simp

theorem resS {l l' : List Nat} {x y : Int} (h : l = l') (h' : x = y) : Res.t [.one (.nat l), .val (.int .u32 x)] = Res.t [.one (.nat l'), .val (.int .u32 y)] := by rw [h, h']

def sShort : List RV → Option (Prop × Res)
  | [.one (.b (.nat l)), .one (.b (.val (.int .u32 d)))] => some (l.length ≤ 100000 ∧ 0 < d ∧ d < 4294967296, .t [.one (.nat (dg (nv l / d.toNat))), .val (.int .u32 (nv l % d.toNat : Nat))])
  | _ => none

set_option maxHeartbeats 1000000 in
theorem ok_natShort : Ok1 174 sShort := by
  refine ok_of TD0_ok Try.func174 rfl (by kernel_rfl) ?_
  intro xs pre res h hp hlim
  unfold sShort at h
  split at h
  · rename_i l dd
    cases h
    have hl : Lim l := hlim.1
    obtain ⟨hp1, hp2, hp3⟩ := hp
    obtain ⟨d, rfl⟩ : ∃ d : Nat, dd = (d : Int) := ⟨dd.toNat, by omega⟩
    rw [Int.toNat_natCast]
    have hw : IntKind.i64.wrap ((l.length : Int) - 1) = (l.length : Int) - 1 := wI (by omega) (by omega)
    have hd64 : IntKind.u64.wrap ((d : Nat) : Int) = (d : Int) := wU (by omega) (by omega)
    refine And.intro (Nat.le_of_ble_eq_true rfl) ?_
    repeat first | refine And.intro rfl ?_ | refine Or.inl (And.intro rfl ?_) | refine Or.inr (And.intro rfl ?_) | refine And.intro (fun (_ : true = true) => ?_) (fun (h : true = false) => Bool.noConfusion h) | refine And.intro (fun (h : false = true) => Bool.noConfusion h) (fun (_ : false = false) => ?_)
    refine And.intro (show 0 ≤ (l.length : Int) ∧ (l.length : Int) ≤ l.length ∧ (l.length : Int) ≤ 1000000 by omega) ?_
    repeat first | refine And.intro rfl ?_ | refine Or.inl (And.intro rfl ?_) | refine Or.inr (And.intro rfl ?_) | refine And.intro (fun (_ : true = true) => ?_) (fun (h : true = false) => Bool.noConfusion h) | refine And.intro (fun (h : false = true) => Bool.noConfusion h) (fun (_ : false = false) => ?_)
    refine Exists.intro {s : Nat × Nat × List Nat // s.1 ≤ l.length ∧ s.2.1 < d ∧ Lim s.2.2 ∧ s.2.2.length + s.1 = l.length ∧ nv (l.drop s.1) = nv s.2.2 * d + s.2.1} (Exists.intro (fun s => ⟨[(0, .one (.nat l)), (1, .val (.int .u32 (d : Nat))), (6, .own 0), (7, .val (.int .u64 (s.1.2.1 : Nat))), (8, .val (.int .i64 ((s.1.1 : Int) - 1)))], ⟨[], [.n 128 (List.replicate s.1.1 0 ++ s.1.2.2)]⟩⟩) (Exists.intro (fun s => s.1.1) (Exists.intro ⟨(l.length, 0, []), Nat.le_refl _, (show 0 < d by omega), Lim.nil, (show ([] : List Nat).length + l.length = l.length by simp), (show nv (l.drop l.length) = nv [] * d + 0 by simp [nv])⟩ (And.intro ?_ ?_))))
    · repeat first | exact trivial | refine And.intro rfl ?_ | refine And.intro trivial ?_ | refine And.intro (And.intro rfl trivial) ?_ | refine And.intro (And.intro rfl (And.intro rfl trivial)) ?_
      refine And.intro (And.intro (rwN ?_) trivial) ?_
      · show List.replicate (l.length : Int).toNat 0 = List.replicate l.length 0 ++ []
        simp
      · repeat first | exact trivial | refine And.intro rfl ?_ | refine And.intro trivial ?_ | refine And.intro (And.intro rfl trivial) ?_ | refine And.intro (And.intro rfl (And.intro rfl trivial)) ?_
        exact And.intro (avI hw) trivial
    · rintro ⟨⟨k, r, out⟩, hk1, hr, hlo, hol, hinv⟩
      simp only at hk1 hr hlo hol hinv
      have hrow : (List.replicate k 0 ++ out).length = l.length := by simp; omega
      repeat first | refine And.intro rfl ?_ | refine Or.inl (And.intro rfl ?_) | refine Or.inr (And.intro rfl ?_) | refine And.intro (fun (_ : true = true) => ?_) (fun (h : true = false) => Bool.noConfusion h) | refine And.intro (fun (h : false = true) => Bool.noConfusion h) (fun (_ : false = false) => ?_)
      refine And.intro (fun hc => ?_) (fun hc => ?_)
      · have hk : 0 < k := by have : (k : Int) - 1 ≥ 0 := of_decide_eq_true hc; omega
        have ek : ((k : Int) - 1).toNat = k - 1 := by omega
        have hx : l.getD (k - 1) 0 < 4294967296 := hl.getD (k - 1)
        have hdp : 0 < d := by omega
        obtain ⟨T, hT⟩ : ∃ T, T = r * 4294967296 + l.getD (k - 1) 0 := ⟨_, rfl⟩
        have hTd : T / d < 4294967296 := by
          rw [Nat.div_lt_iff_lt_mul hdp, hT]
          have : (r + 1) * 4294967296 ≤ d * 4294967296 := Nat.mul_le_mul_right _ (by omega)
          omega
        have hT1 : T < 18446744073709551616 := by omega
        have eo : bits .or .u64 (IntKind.u64.wrap ((r : Int) * 2 ^ min (32 : Int).toNat IntKind.u64.bits)) (IntKind.u64.wrap ((l.getD ((k : Int) - 1).toNat 0 : Nat) : Int)) = ((T : Nat) : Int) := by rw [ek, or_limb _ _ (by omega) hx, hT]
        obtain ⟨Q, hQ⟩ : ∃ Q, Q = T / d := ⟨_, rfl⟩
        rw [← hQ] at hTd
        have eq : IntKind.u64.wrap (Int.tdiv ((T : Nat) : Int) ((d : Nat) : Int)) = ((Q : Nat) : Int) := by
          rw [← Int.ofNat_tdiv, ← hQ]
          exact wU (by omega) (by omega)
        have e32 : IntKind.u32.wrap ((Q : Nat) : Int) = ((Q : Nat) : Int) := by rw [wU32]; omega
        have er : Int.tmod ((T : Nat) : Int) ((d : Nat) : Int) = ((T % d : Nat) : Int) := (Int.ofNat_tmod _ _).symm
        repeat first | refine And.intro rfl ?_ | refine Or.inl (And.intro rfl ?_) | refine Or.inr (And.intro rfl ?_) | refine And.intro (fun (_ : true = true) => ?_) (fun (h : true = false) => Bool.noConfusion h) | refine And.intro (fun (h : false = true) => Bool.noConfusion h) (fun (_ : false = false) => ?_)
        refine And.intro (show 0 ≤ (32 : Int) by decide) ?_
        repeat first | refine And.intro rfl ?_ | refine Or.inl (And.intro rfl ?_) | refine Or.inr (And.intro rfl ?_) | refine And.intro (fun (_ : true = true) => ?_) (fun (h : true = false) => Bool.noConfusion h) | refine And.intro (fun (h : false = true) => Bool.noConfusion h) (fun (_ : false = false) => ?_)
        refine And.intro (show 0 ≤ (k : Int) - 1 ∧ (k : Int) - 1 < l.length by omega) ?_
        repeat first | refine And.intro rfl ?_ | refine Or.inl (And.intro rfl ?_) | refine Or.inr (And.intro rfl ?_) | refine And.intro (fun (_ : true = true) => ?_) (fun (h : true = false) => Bool.noConfusion h) | refine And.intro (fun (h : false = true) => Bool.noConfusion h) (fun (_ : false = false) => ?_)
        refine And.intro (show IntKind.u64.wrap ((d : Nat) : Int) ≠ 0 by rw [hd64]; omega) ?_
        repeat first | refine And.intro rfl ?_ | refine Or.inl (And.intro rfl ?_) | refine Or.inr (And.intro rfl ?_) | refine And.intro (fun (_ : true = true) => ?_) (fun (h : true = false) => Bool.noConfusion h) | refine And.intro (fun (h : false = true) => Bool.noConfusion h) (fun (_ : false = false) => ?_)
        refine And.intro (show 0 ≤ (k : Int) - 1 ∧ (k : Int) - 1 < (List.replicate k 0 ++ out).length by rw [hrow]; omega) ?_
        repeat first | refine And.intro rfl ?_ | refine Or.inl (And.intro rfl ?_) | refine Or.inr (And.intro rfl ?_) | refine And.intro (fun (_ : true = true) => ?_) (fun (h : true = false) => Bool.noConfusion h) | refine And.intro (fun (h : false = true) => Bool.noConfusion h) (fun (_ : false = false) => ?_)
        refine And.intro (show ((k : Int) - 1).toNat < (List.replicate k 0 ++ out).length ∧ 0 ≤ IntKind.u32.wrap (IntKind.u64.wrap (Int.tdiv _ _)) ∧ IntKind.u32.wrap (IntKind.u64.wrap (Int.tdiv _ _)) < 4294967296 by rw [eo, hd64, eq, e32, hrow]; omega) ?_
        repeat first | refine And.intro rfl ?_ | refine Or.inl (And.intro rfl ?_) | refine Or.inr (And.intro rfl ?_) | refine And.intro (fun (_ : true = true) => ?_) (fun (h : true = false) => Bool.noConfusion h) | refine And.intro (fun (h : false = true) => Bool.noConfusion h) (fun (_ : false = false) => ?_)
        refine And.intro (show IntKind.u64.wrap ((d : Nat) : Int) ≠ 0 by rw [hd64]; omega) ?_
        repeat first | refine And.intro rfl ?_ | refine Or.inl (And.intro rfl ?_) | refine Or.inr (And.intro rfl ?_) | refine And.intro (fun (_ : true = true) => ?_) (fun (h : true = false) => Bool.noConfusion h) | refine And.intro (fun (h : false = true) => Bool.noConfusion h) (fun (_ : false = false) => ?_)
        refine Exists.intro ⟨(k - 1, T % d, Q :: out), (show k - 1 ≤ _ by omega), Nat.mod_lt _ hdp, Lim.cons hTd hlo, (show (Q :: out).length + (k - 1) = _ by simp; omega), ?_⟩ (And.intro (show k - 1 < k by omega) ?_)
        · show nv (l.drop (k - 1)) = (Q + B * nv out) * d + T % d
          rw [nv_cons_drop l k hk hk1, hinv, B_eq]
          have e := Nat.div_add_mod T d
          rw [← hQ] at e
          rw [Nat.add_mul, Nat.mul_comm Q d, Nat.mul_add, Nat.mul_assoc]
          omega
        · repeat first | exact trivial | refine And.intro rfl ?_ | refine And.intro trivial ?_ | refine And.intro (And.intro rfl trivial) ?_ | refine And.intro (And.intro rfl (And.intro rfl trivial)) ?_
          refine And.intro (And.intro (rwN ?_) trivial) ?_
          · show (List.replicate k 0 ++ out).set ((k : Int) - 1).toNat (IntKind.u32.wrap (IntKind.u64.wrap (Int.tdiv _ _))).toNat = List.replicate (k - 1) 0 ++ (Q :: out)
            rw [eo, hd64, eq, e32, ek, Int.toNat_natCast]
            exact set_rep out k _ hk
          · repeat first | exact trivial | refine And.intro rfl ?_ | refine And.intro trivial ?_ | refine And.intro (And.intro rfl trivial) ?_ | refine And.intro (And.intro rfl (And.intro rfl trivial)) ?_
            refine And.intro (avI (show Int.tmod _ _ = ((T % d : Nat) : Int) by rw [eo, hd64, er])) ?_
            repeat first | exact trivial | refine And.intro rfl ?_ | refine And.intro trivial ?_ | refine And.intro (And.intro rfl trivial) ?_ | refine And.intro (And.intro rfl (And.intro rfl trivial)) ?_
            exact And.intro (avI (show IntKind.i64.wrap ((k : Int) - 1 - 1) = ((k - 1 : Nat) : Int) - 1 by rw [wI (by omega) (by omega)]; omega)) trivial
      · have hk : k = 0 := by have : ¬ (k : Int) - 1 ≥ 0 := of_decide_eq_false hc; omega
        subst hk
        rw [List.drop_zero] at hinv
        have e32 : IntKind.u32.wrap ((r : Nat) : Int) = (r : Int) := by rw [wU32]; omega
        have hdp : 0 < d := by omega
        repeat first | refine And.intro rfl ?_ | refine Or.inl (And.intro rfl ?_) | refine Or.inr (And.intro rfl ?_) | refine And.intro (fun (_ : true = true) => ?_) (fun (h : true = false) => Bool.noConfusion h) | refine And.intro (fun (h : false = true) => Bool.noConfusion h) (fun (_ : false = false) => ?_)
        refine And.intro (show (List.replicate 0 0 ++ out).length ≤ 1000000 by simp; omega) ?_
        refine resS (congrArg dg ?_) ?_
        · show nv out = nv l / d
          rw [hinv, Nat.mul_comm, Nat.mul_add_div hdp, Nat.div_eq_of_lt hr, Nat.add_zero]
        · show IntKind.u32.wrap ((r : Nat) : Int) = ((nv l % d : Nat) : Int)
          rw [e32, hinv, Nat.mul_comm, Nat.mul_add_mod, Nat.mod_eq_of_lt hr]
  · cases h

end Go.Gm

