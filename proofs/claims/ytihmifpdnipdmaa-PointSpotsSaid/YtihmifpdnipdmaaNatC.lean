/-
  The natural numbers of the program, part C: Cmp. Plain theorems; no condition.
-/
import Derived.Test.YtihmifpdnipdmaaNatB
set_option linter.all false
namespace Go.Gm
open Go.Proofs

theorem lt_of_len {x y : Nat} (h : (dg x).length < (dg y).length) : x < y := by
  rcases Nat.lt_or_ge x y with h1 | h1
  · exact h1
  · have h2 := lt_of_dg_len x _ (Nat.le_refl _)
    have h3 := dg_len_of_lt y (dg x).length (Nat.lt_of_le_of_lt h1 h2)
    omega

theorem nv_split (p : List Nat) (k : Nat) (hk : k < p.length) : nv p = nv (p.take k) + B ^ k * (p[k] + B * nv (p.drop (k + 1))) := by
  rw [nv_take_drop p k (by omega), List.drop_eq_getElem_cons hk]
  rfl

theorem lt_at {p q : List Nat} (hp : Lim p) (hlen : p.length = q.length) (k : Nat) (hk : k < p.length) (hd : p.drop (k + 1) = q.drop (k + 1)) (h : p.getD k 0 < q.getD k 0) : nv p < nv q := by
  have hk' : k < q.length := by omega
  rw [List.getD_eq_getElem?_getD, List.getD_eq_getElem?_getD, List.getElem?_eq_getElem hk, List.getElem?_eq_getElem hk'] at h
  simp only [Option.getD_some] at h
  rw [nv_split p k hk, nv_split q k hk', hd]
  have h1 := nv_lt (hp.take k)
  rw [List.length_take, Nat.min_eq_left (by omega)] at h1
  have h2 : B ^ k * (p[k] + B * nv (q.drop (k + 1)) + 1) ≤ B ^ k * (q[k] + B * nv (q.drop (k + 1))) := Nat.mul_le_mul_left _ (by omega)
  rw [Nat.mul_add, Nat.mul_one] at h2
  omega

theorem drop_step {p q : List Nat} (k : Nat) (h0 : 0 < k) (hk : k ≤ p.length) (hlen : p.length = q.length) (hd : p.drop k = q.drop k) (h : p.getD (k - 1) 0 = q.getD (k - 1) 0) : p.drop (k - 1) = q.drop (k - 1) := by
  rw [List.getD_eq_getElem?_getD, List.getD_eq_getElem?_getD, List.getElem?_eq_getElem (by omega), List.getElem?_eq_getElem (by omega)] at h
  simp only [Option.getD_some] at h
  rw [List.drop_eq_getElem_cons (i := k - 1) (by omega), List.drop_eq_getElem_cons (i := k - 1) (by omega), h, show k - 1 + 1 = k by omega, hd]

def TC0 : Table := [(168, sTrim), (179, sCmpI), (180, sCmpU)]
theorem TC0_ok : TabOk TC0 := TabOk.cons ok_trim (TabOk.cons ok_cmpI (TabOk.cons ok_cmpU TabOk.nil))

def sCmp : List RV → Option (Prop × Res)
  | [.one (.b (.nat l)), .one (.b (.nat l'))] => some (l.length ≤ 1000000 ∧ l'.length ≤ 1000000, .r (.one (.val (.int .i64 (cmpZ (nv l) (nv l'))))))
  | _ => none

theorem cmpZ_lt {a b : Int} (h : a < b) : cmpZ a b = -1 := by rw [cmpZ, if_pos h]
theorem cmpZ_gt {a b : Int} (h : b < a) : cmpZ a b = 1 := by rw [cmpZ, if_neg (by omega), if_pos h]
theorem cmpZ_eq {a b : Int} (h : a = b) : cmpZ a b = 0 := by rw [cmpZ, if_neg (by omega), if_neg (by omega)]

theorem ok_natCmp : Ok1 153 sCmp := by
  refine ok_of TC0_ok Try.func153 rfl (by kernel_rfl) ?_
  intro xs pre res h hp hlim
  unfold sCmp at h
  split at h
  · rename_i l l'
    cases h
    obtain ⟨hl, hl', _⟩ := hlim
    have hl : Lim l := hl
    have hl' : Lim l' := hl'
    have hd := dg_nv_len hl
    have hd' := dg_nv_len hl'
    refine And.intro (Nat.le_of_ble_eq_true rfl) ?_
    repeat first | refine And.intro rfl ?_ | refine Or.inl (And.intro rfl ?_) | refine Or.inr (And.intro rfl ?_) | refine And.intro (fun (_ : true = true) => ?_) (fun (h : true = false) => Bool.noConfusion h) | refine And.intro (fun (h : false = true) => Bool.noConfusion h) (fun (_ : false = false) => ?_)
    refine And.intro hp.1 ?_
    repeat first | refine And.intro rfl ?_ | refine Or.inl (And.intro rfl ?_) | refine Or.inr (And.intro rfl ?_) | refine And.intro (fun (_ : true = true) => ?_) (fun (h : true = false) => Bool.noConfusion h) | refine And.intro (fun (h : false = true) => Bool.noConfusion h) (fun (_ : false = false) => ?_)
    refine And.intro hp.2 ?_
    repeat first | refine And.intro rfl ?_ | refine Or.inl (And.intro rfl ?_) | refine Or.inr (And.intro rfl ?_) | refine And.intro (fun (_ : true = true) => ?_) (fun (h : true = false) => Bool.noConfusion h) | refine And.intro (fun (h : false = true) => Bool.noConfusion h) (fun (_ : false = false) => ?_)
    refine And.intro trivial ?_
    repeat first | refine And.intro rfl ?_ | refine Or.inl (And.intro rfl ?_) | refine Or.inr (And.intro rfl ?_) | refine And.intro (fun (_ : true = true) => ?_) (fun (h : true = false) => Bool.noConfusion h) | refine And.intro (fun (h : false = true) => Bool.noConfusion h) (fun (_ : false = false) => ?_)
    refine And.intro (fun hc => ?_) (fun hc => ?_)
    · repeat first | refine And.intro rfl ?_ | refine Or.inl (And.intro rfl ?_) | refine Or.inr (And.intro rfl ?_) | refine And.intro (fun (_ : true = true) => ?_) (fun (h : true = false) => Bool.noConfusion h) | refine And.intro (fun (h : false = true) => Bool.noConfusion h) (fun (_ : false = false) => ?_)
      refine resI ?_
      show cmpZ ((dg (nv l)).length : Int) ((dg (nv l')).length : Int) = cmpZ (nv l : Int) (nv l' : Int)
      rcases Nat.lt_trichotomy (dg (nv l)).length (dg (nv l')).length with h1 | h1 | h1
      · have := lt_of_len h1
        rw [cmpZ_lt (by omega), cmpZ_lt (by omega)]
      · rw [cmpZ_eq (by omega)] at hc; cases hc
      · have := lt_of_len h1
        rw [cmpZ_gt (by omega), cmpZ_gt (by omega)]
    · have hlen : (dg (nv l)).length = (dg (nv l')).length := by
        rcases Nat.lt_trichotomy (dg (nv l)).length (dg (nv l')).length with h1 | h1 | h1
        · rw [cmpZ_lt (by omega)] at hc; cases hc
        · exact h1
        · rw [cmpZ_gt (by omega)] at hc; cases hc
      have hw : IntKind.i64.wrap (((dg (nv l)).length : Int) - 1) = ((dg (nv l)).length : Int) - 1 := wI (by omega) (by omega)
      repeat first | refine And.intro rfl ?_ | refine Or.inl (And.intro rfl ?_) | refine Or.inr (And.intro rfl ?_) | refine And.intro (fun (_ : true = true) => ?_) (fun (h : true = false) => Bool.noConfusion h) | refine And.intro (fun (h : false = true) => Bool.noConfusion h) (fun (_ : false = false) => ?_)
      refine Exists.intro {k : Nat // k ≤ (dg (nv l)).length ∧ (dg (nv l)).drop k = (dg (nv l')).drop k} (Exists.intro (fun k => ⟨[(0, .one (.nat (dg (nv l)))), (1, .one (.nat (dg (nv l')))), (6, .val (.int .i64 ((k.1 : Int) - 1)))], ⟨[], []⟩⟩) (Exists.intro (fun k => k.1) (Exists.intro ⟨(dg (nv l)).length, Nat.le_refl _, by rw [hlen, List.drop_length, ← hlen, List.drop_length]⟩ (And.intro ?le ?body))))
      case le => exact And.intro rfl (And.intro trivial (And.intro rfl (And.intro rfl (And.intro rfl (And.intro rfl (And.intro rfl (And.intro (avI hw) trivial)))))))
      case body =>
        rintro ⟨k, hk1, hk2⟩
        repeat first | refine And.intro rfl ?_ | refine Or.inl (And.intro rfl ?_) | refine Or.inr (And.intro rfl ?_) | refine And.intro (fun (_ : true = true) => ?_) (fun (h : true = false) => Bool.noConfusion h) | refine And.intro (fun (h : false = true) => Bool.noConfusion h) (fun (_ : false = false) => ?_)
        refine And.intro (fun hc => ?_) (fun hc => ?_)
        · have hk : 0 < k := by have : (k : Int) - 1 ≥ 0 := of_decide_eq_true hc; omega
          have ek : ((k : Int) - 1).toNat = k - 1 := by omega
          repeat first | refine And.intro rfl ?_ | refine Or.inl (And.intro rfl ?_) | refine Or.inr (And.intro rfl ?_) | refine And.intro (fun (_ : true = true) => ?_) (fun (h : true = false) => Bool.noConfusion h) | refine And.intro (fun (h : false = true) => Bool.noConfusion h) (fun (_ : false = false) => ?_)
          refine And.intro (show 0 ≤ (k : Int) - 1 ∧ (k : Int) - 1 < (dg (nv l)).length by omega) ?_
          repeat first | refine And.intro rfl ?_ | refine Or.inl (And.intro rfl ?_) | refine Or.inr (And.intro rfl ?_) | refine And.intro (fun (_ : true = true) => ?_) (fun (h : true = false) => Bool.noConfusion h) | refine And.intro (fun (h : false = true) => Bool.noConfusion h) (fun (_ : false = false) => ?_)
          refine And.intro (show 0 ≤ (k : Int) - 1 ∧ (k : Int) - 1 < (dg (nv l')).length by omega) ?_
          repeat first | refine And.intro rfl ?_ | refine Or.inl (And.intro rfl ?_) | refine Or.inr (And.intro rfl ?_) | refine And.intro (fun (_ : true = true) => ?_) (fun (h : true = false) => Bool.noConfusion h) | refine And.intro (fun (h : false = true) => Bool.noConfusion h) (fun (_ : false = false) => ?_)
          refine And.intro trivial ?_
          repeat first | refine And.intro rfl ?_ | refine Or.inl (And.intro rfl ?_) | refine Or.inr (And.intro rfl ?_) | refine And.intro (fun (_ : true = true) => ?_) (fun (h : true = false) => Bool.noConfusion h) | refine And.intro (fun (h : false = true) => Bool.noConfusion h) (fun (_ : false = false) => ?_)
          refine And.intro (fun hd => ?_) (fun hd => ?_)
          · repeat first | refine And.intro rfl ?_ | refine Or.inl (And.intro rfl ?_) | refine Or.inr (And.intro rfl ?_) | refine And.intro (fun (_ : true = true) => ?_) (fun (h : true = false) => Bool.noConfusion h) | refine And.intro (fun (h : false = true) => Bool.noConfusion h) (fun (_ : false = false) => ?_)
            refine resI ?_
            show cmpZ (((dg (nv l)).getD ((k : Int) - 1).toNat 0 : Nat) : Int) (((dg (nv l')).getD ((k : Int) - 1).toNat 0 : Nat) : Int) = cmpZ (nv l : Int) (nv l' : Int)
            rw [ek] at hd ⊢
            rcases Nat.lt_trichotomy ((dg (nv l)).getD (k - 1) 0) ((dg (nv l')).getD (k - 1) 0) with h1 | h1 | h1
            · have := lt_at (dg_lim (nv l)) hlen (k - 1) (by omega) (by rw [show k - 1 + 1 = k by omega]; exact hk2) h1
              rw [nv_dg, nv_dg] at this
              rw [cmpZ_lt (by omega), cmpZ_lt (by omega)]
            · rw [cmpZ_eq (by omega)] at hd; cases hd
            · have := lt_at (dg_lim (nv l')) hlen.symm (k - 1) (by omega) (by rw [show k - 1 + 1 = k by omega]; exact hk2.symm) h1
              rw [nv_dg, nv_dg] at this
              rw [cmpZ_gt (by omega), cmpZ_gt (by omega)]
          · have he : (dg (nv l)).getD (k - 1) 0 = (dg (nv l')).getD (k - 1) 0 := by
              rw [ek] at hd
              rcases Nat.lt_trichotomy ((dg (nv l)).getD (k - 1) 0) ((dg (nv l')).getD (k - 1) 0) with h1 | h1 | h1
              · rw [cmpZ_lt (by omega)] at hd; cases hd
              · exact h1
              · rw [cmpZ_gt (by omega)] at hd; cases hd
            repeat first | refine And.intro rfl ?_ | refine Or.inl (And.intro rfl ?_) | refine Or.inr (And.intro rfl ?_) | refine And.intro (fun (_ : true = true) => ?_) (fun (h : true = false) => Bool.noConfusion h) | refine And.intro (fun (h : false = true) => Bool.noConfusion h) (fun (_ : false = false) => ?_)
            refine Exists.intro ⟨k - 1, by omega, drop_step k hk hk1 hlen hk2 he⟩ (And.intro (show k - 1 < k by omega) ?_)
            exact And.intro rfl (And.intro trivial (And.intro rfl (And.intro rfl (And.intro rfl (And.intro rfl (And.intro rfl (And.intro (avI (show IntKind.i64.wrap ((k : Int) - 1 - 1) = ((k - 1 : Nat) : Int) - 1 by rw [wI (by omega) (by omega)]; omega)) trivial)))))))
        · have hk : k = 0 := by have : ¬ (k : Int) - 1 ≥ 0 := of_decide_eq_false hc; omega
          subst hk
          have : nv l = nv l' := dg_inj (by simpa using hk2)
          repeat first | refine And.intro rfl ?_ | refine Or.inl (And.intro rfl ?_) | refine Or.inr (And.intro rfl ?_) | refine And.intro (fun (_ : true = true) => ?_) (fun (h : true = false) => Bool.noConfusion h) | refine And.intro (fun (h : false = true) => Bool.noConfusion h) (fun (_ : false = false) => ?_)
          exact resI (cmpZ_eq (by rw [this])).symm
  · cases h

end Go.Gm
