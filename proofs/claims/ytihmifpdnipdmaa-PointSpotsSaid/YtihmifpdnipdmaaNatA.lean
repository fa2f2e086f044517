/-
  The natural numbers of the program, part A. Plain theorems; no condition.
-/
import Derived.Test.YtihmifpdnipdmaaEnv
set_option linter.all false
namespace Go.Gm
open Go.Proofs

abbrev RV.val (v : Value) : RV := .one (.b (.val v))

theorem wI {x : Int} (h0 : -9223372036854775808 ≤ x) (h1 : x < 9223372036854775808) : IntKind.i64.wrap x = x := by
  rw [IntKind.wrap_i64]
  omega
theorem wU64 (n : Int) : IntKind.u64.wrap n = n % 18446744073709551616 := by simp [IntKind.wrap, IntKind.bits, IntKind.signed]
theorem wU32 (n : Int) : IntKind.u32.wrap n = n % 4294967296 := by simp [IntKind.wrap, IntKind.bits, IntKind.signed]
theorem wU {x : Int} (h0 : 0 ≤ x) (h1 : x < 18446744073709551616) : IntKind.u64.wrap x = x := by rw [wU64]; omega

/-- Results that are equal. -/
theorem resN {l l' : List Nat} (h : l = l') : Res.r (.one (.nat l)) = Res.r (.one (.nat l')) := by rw [h]
theorem avI {k : IntKind} {x y : Int} (h : x = y) : AV.val (.int k x) = AV.val (.int k y) := by rw [h]
theorem avN {l l' : List Nat} (h : l = l') : AV.one (.nat l) = AV.one (.nat l') := by rw [h]

def sTrim : List RV → Option (Prop × Res)
  | [.one (.b (.nat l))] => some (l.length ≤ 1000000, .r (.one (.nat (dg (nv l)))))
  | _ => none

theorem nv_drop_zero (l : List Nat) (k : Nat) (h0 : 0 < k) (hk : k ≤ l.length) (h : nv (l.drop k) = 0) (hx : l.getD (k - 1) 0 = 0) : nv (l.drop (k - 1)) = 0 := by
  have e : l.drop (k - 1) = l[k - 1] :: l.drop k := by
    rw [List.drop_eq_getElem_cons (by omega)]
    congr 2
    omega
  rw [e]
  have : l[k - 1] = 0 := by
    rw [List.getD_eq_getElem?_getD, List.getElem?_eq_getElem (by omega)] at hx
    simpa using hx
  simp [nv, this, h]

theorem ok_trim : Ok1 168 sTrim := by
  refine ok_of TabOk.nil Try.func168 rfl (by kernel_rfl) ?_
  intro xs pre res h hp hlim
  unfold sTrim at h
  split at h
  · rename_i l
    cases h
    have hl : Lim l := hlim.1
    refine And.intro (Nat.le_of_ble_eq_true rfl) ?_
    repeat first | refine And.intro rfl ?_ | refine Or.inl (And.intro rfl ?_) | refine Or.inr (And.intro rfl ?_) | refine And.intro (fun (_ : true = true) => ?_) (fun (h : true = false) => Bool.noConfusion h) | refine And.intro (fun (h : false = true) => Bool.noConfusion h) (fun (_ : false = false) => ?_)
    refine Exists.intro {k : Nat // k ≤ l.length ∧ nv (l.drop k) = 0} (Exists.intro (fun k => ⟨[(0, .one (.nat l)), (3, .val (.int .i64 (k.1 : Nat)))], ⟨[], []⟩⟩) (Exists.intro (fun k => k.1) (Exists.intro ⟨l.length, Nat.le_refl _, by simp [nv]⟩ (And.intro ?le ?body))))
    case le => exact And.intro rfl (And.intro trivial (And.intro rfl (And.intro rfl (And.intro rfl (And.intro rfl trivial)))))
    case body =>
      rintro ⟨k, hk1, hk2⟩
      by_cases hk : 0 < k
      · have hw : IntKind.i64.wrap ((k : Int) - 1) = ((k - 1 : Nat) : Int) := by rw [wI (by omega) (by omega)]; omega
        repeat first | refine And.intro rfl ?_ | refine Or.inl (And.intro rfl ?_) | refine Or.inr (And.intro rfl ?_) | refine And.intro (fun (_ : true = true) => ?_) (fun (h : true = false) => Bool.noConfusion h) | refine And.intro (fun (h : false = true) => Bool.noConfusion h) (fun (_ : false = false) => ?_)
        refine Or.inl (And.intro (by simp; omega) ?_)
        repeat first | refine And.intro rfl ?_ | refine Or.inl (And.intro rfl ?_) | refine Or.inr (And.intro rfl ?_) | refine And.intro (fun (_ : true = true) => ?_) (fun (h : true = false) => Bool.noConfusion h) | refine And.intro (fun (h : false = true) => Bool.noConfusion h) (fun (_ : false = false) => ?_)
        refine And.intro (show 0 ≤ IntKind.i64.wrap ((k : Int) - 1) ∧ IntKind.i64.wrap ((k : Int) - 1) < l.length by rw [hw]; omega) ?_
        repeat first | refine And.intro rfl ?_ | refine Or.inl (And.intro rfl ?_) | refine Or.inr (And.intro rfl ?_) | refine And.intro (fun (_ : true = true) => ?_) (fun (h : true = false) => Bool.noConfusion h) | refine And.intro (fun (h : false = true) => Bool.noConfusion h) (fun (_ : false = false) => ?_)
        refine And.intro (fun hc => ?_) (fun hc => ?_)
        · have hc' : l.getD (k - 1) 0 = 0 := by
            simp only [hw, Int.toNat_natCast, beq_iff_eq] at hc
            omega
          repeat first | refine And.intro rfl ?_ | refine Or.inl (And.intro rfl ?_) | refine Or.inr (And.intro rfl ?_) | refine And.intro (fun (_ : true = true) => ?_) (fun (h : true = false) => Bool.noConfusion h) | refine And.intro (fun (h : false = true) => Bool.noConfusion h) (fun (_ : false = false) => ?_)
          refine Exists.intro ⟨k - 1, by omega, nv_drop_zero l k hk hk1 hk2 hc'⟩ (And.intro (show k - 1 < k by omega) ?_)
          exact And.intro rfl (And.intro trivial (And.intro rfl (And.intro rfl (And.intro rfl (And.intro (avI hw) trivial)))))
        · have hc' : l.getD (k - 1) 0 ≠ 0 := by
            simp only [hw, Int.toNat_natCast, beq_eq_false_iff_ne] at hc
            omega
          repeat first | refine And.intro rfl ?_ | refine Or.inl (And.intro rfl ?_) | refine Or.inr (And.intro rfl ?_) | refine And.intro (fun (_ : true = true) => ?_) (fun (h : true = false) => Bool.noConfusion h) | refine And.intro (fun (h : false = true) => Bool.noConfusion h) (fun (_ : false = false) => ?_)
          refine And.intro (show 0 ≤ (k : Int) ∧ (k : Int) ≤ l.length by omega) ?_
          refine resN (dg_trim l hl k hk1 hk2 (fun h => ?_))
          rw [List.getD_eq_getElem?_getD, List.getElem?_eq_getElem (by omega)] at hc'
          simpa using hc'
      · have hk0 : k = 0 := by omega
        subst hk0
        repeat first | refine And.intro rfl ?_ | refine Or.inl (And.intro rfl ?_) | refine Or.inr (And.intro rfl ?_) | refine And.intro (fun (_ : true = true) => ?_) (fun (h : true = false) => Bool.noConfusion h) | refine And.intro (fun (h : false = true) => Bool.noConfusion h) (fun (_ : false = false) => ?_)
        refine And.intro (show 0 ≤ (0 : Int) ∧ (0 : Int) ≤ l.length by omega) ?_
        exact resN (dg_trim l hl 0 (by omega) hk2 (fun h => absurd h (by decide)))
  · cases h

end Go.Gm
