/-
  Whether ratios and points are equal field by field, and whether they are short. Plain theorems; no condition.
-/
import Derived.Test.YtihmifpdnipdmaaGreatPts
set_option linter.all false
namespace Go.Gm
open Go.Proofs

def sLimbs : List RV → Option (Prop × Res)
  | [.one (.b (.nat l)), .one (.b (.nat l'))] => some (l.length ≤ 1000000, .r (.val (.bool (decide (l = l')))))
  | _ => none

set_option maxHeartbeats 1000000 in
theorem ok_sameNat8 : Ok1 42 sLimbs := by
  refine ok_of TabOk.nil Tryz.func42 rfl (by kernel_rfl) ?_
  intro xs pre res h hp hlim
  unfold sLimbs at h
  split at h
  · rename_i l l'
    cases h
    refine And.intro (Nat.le_of_ble_eq_true rfl) ?_
    repeat first | refine And.intro rfl ?_ | refine Or.inl (And.intro rfl ?_) | refine Or.inr (And.intro rfl ?_) | refine And.intro (fun (_ : true = true) => ?_) (fun (h : true = false) => Bool.noConfusion h) | refine And.intro (fun (h : false = true) => Bool.noConfusion h) (fun (_ : false = false) => ?_)
    refine And.intro (fun hc => ?_) (fun hc => ?_)
    · have hne : l.length ≠ l'.length := by
        intro h
        rw [h] at hc
        simp at hc
      repeat first | refine And.intro rfl ?_ | refine Or.inl (And.intro rfl ?_) | refine Or.inr (And.intro rfl ?_) | refine And.intro (fun (_ : true = true) => ?_) (fun (h : true = false) => Bool.noConfusion h) | refine And.intro (fun (h : false = true) => Bool.noConfusion h) (fun (_ : false = false) => ?_)
      exact resB (decide_eq_false (fun h => hne (by rw [h]))).symm
    · have hle : l.length = l'.length := by
        have : ((l.length : Int) != (l'.length : Int)) = false := hc
        simp at this
        omega
      repeat first | refine And.intro rfl ?_ | refine Or.inl (And.intro rfl ?_) | refine Or.inr (And.intro rfl ?_) | refine And.intro (fun (_ : true = true) => ?_) (fun (h : true = false) => Bool.noConfusion h) | refine And.intro (fun (h : false = true) => Bool.noConfusion h) (fun (_ : false = false) => ?_)
      refine Exists.intro {i : Nat // i ≤ l.length ∧ l.take i = l'.take i} (Exists.intro (fun i => ⟨[(0, .one (.nat l)), (1, .one (.nat l')), (5, .val (.int .i64 (i.1 : Nat)))], ⟨[], []⟩⟩) (Exists.intro (fun i => l.length - i.1) (Exists.intro ⟨0, Nat.zero_le _, by simp⟩ (And.intro ?_ ?_))))
      · repeat first | exact trivial | refine And.intro rfl ?_ | refine And.intro trivial ?_ | refine And.intro (And.intro rfl trivial) ?_ | refine And.intro (And.intro rfl (And.intro rfl trivial)) ?_
      · rintro ⟨i, hi, ht⟩
        repeat first | refine And.intro rfl ?_ | refine Or.inl (And.intro rfl ?_) | refine Or.inr (And.intro rfl ?_) | refine And.intro (fun (_ : true = true) => ?_) (fun (h : true = false) => Bool.noConfusion h) | refine And.intro (fun (h : false = true) => Bool.noConfusion h) (fun (_ : false = false) => ?_)
        refine And.intro (fun hc => ?_) (fun hc => ?_)
        · have hi' : (i : Int) < l.length := of_decide_eq_true hc
          repeat first | refine And.intro rfl ?_ | refine Or.inl (And.intro rfl ?_) | refine Or.inr (And.intro rfl ?_) | refine And.intro (fun (_ : true = true) => ?_) (fun (h : true = false) => Bool.noConfusion h) | refine And.intro (fun (h : false = true) => Bool.noConfusion h) (fun (_ : false = false) => ?_)
          refine And.intro (show 0 ≤ (i : Int) ∧ (i : Int) < (l.length : Int) by omega) ?_
          repeat first | refine And.intro rfl ?_ | refine Or.inl (And.intro rfl ?_) | refine Or.inr (And.intro rfl ?_) | refine And.intro (fun (_ : true = true) => ?_) (fun (h : true = false) => Bool.noConfusion h) | refine And.intro (fun (h : false = true) => Bool.noConfusion h) (fun (_ : false = false) => ?_)
          refine And.intro (show 0 ≤ (i : Int) ∧ (i : Int) < (l'.length : Int) by omega) ?_
          repeat first | refine And.intro rfl ?_ | refine Or.inl (And.intro rfl ?_) | refine Or.inr (And.intro rfl ?_) | refine And.intro (fun (_ : true = true) => ?_) (fun (h : true = false) => Bool.noConfusion h) | refine And.intro (fun (h : false = true) => Bool.noConfusion h) (fun (_ : false = false) => ?_)
          refine And.intro (fun hx => ?_) (fun hx => ?_)
          · have hx : (((l.getD (i : Int).toNat 0 : Nat) : Int) != ((l'.getD (i : Int).toNat 0 : Nat) : Int)) = true := hx
            repeat first | refine And.intro rfl ?_ | refine Or.inl (And.intro rfl ?_) | refine Or.inr (And.intro rfl ?_) | refine And.intro (fun (_ : true = true) => ?_) (fun (h : true = false) => Bool.noConfusion h) | refine And.intro (fun (h : false = true) => Bool.noConfusion h) (fun (_ : false = false) => ?_)
            refine resB (decide_eq_false (fun h => ?_)).symm
            rw [h] at hx
            simp at hx
          · have hx : (((l.getD (i : Int).toNat 0 : Nat) : Int) != ((l'.getD (i : Int).toNat 0 : Nat) : Int)) = false := hx
            rw [Int.toNat_natCast] at hx
            have hx : l.getD i 0 = l'.getD i 0 := by
              simp only [bne_eq_false_iff_eq] at hx
              omega
            repeat first | refine And.intro rfl ?_ | refine Or.inl (And.intro rfl ?_) | refine Or.inr (And.intro rfl ?_) | refine And.intro (fun (_ : true = true) => ?_) (fun (h : true = false) => Bool.noConfusion h) | refine And.intro (fun (h : false = true) => Bool.noConfusion h) (fun (_ : false = false) => ?_)
            refine Exists.intro ⟨i + 1, by omega, by rw [take_snoc l 0 i (by omega), take_snoc l' 0 i (by omega), ht, hx]⟩ (And.intro (show l.length - (i + 1) < l.length - i by omega) ?_)
            repeat first | exact trivial | refine And.intro rfl ?_ | refine And.intro trivial ?_ | refine And.intro (And.intro rfl trivial) ?_ | refine And.intro (And.intro rfl (And.intro rfl trivial)) ?_
            exact And.intro (avI (show IntKind.i64.wrap ((i : Int) + 1) = ((i + 1 : Nat) : Int) by rw [wI (by omega) (by omega)]; omega)) trivial
        · have hi' : ¬ (i : Int) < l.length := of_decide_eq_false hc
          have hil : i = l.length := by omega
          rw [hil, List.take_length, hle, List.take_length] at ht
          repeat first | refine And.intro rfl ?_ | refine Or.inl (And.intro rfl ?_) | refine Or.inr (And.intro rfl ?_) | refine And.intro (fun (_ : true = true) => ?_) (fun (h : true = false) => Bool.noConfusion h) | refine And.intro (fun (h : false = true) => Bool.noConfusion h) (fun (_ : false = false) => ?_)
          exact resB (decide_eq_true ht).symm
  · cases h

def sSameInt : List RV → Option (Prop × Res)
  | [.agg [.b (.val (.bool s)), .b (.nat l)], .agg [.b (.val (.bool s')), .b (.nat l')]] => some (l.length ≤ 1000000, .r (.val (.bool (decide (s = s' ∧ l = l')))))
  | _ => none
def sSameRat : List RV → Option (Prop × Res)
  | [.agg [.b (.val (.bool s)), .b (.nat l), .b (.nat t)], .agg [.b (.val (.bool s')), .b (.nat l'), .b (.nat t')]] => some (l.length ≤ 1000000 ∧ t.length ≤ 1000000, .r (.val (.bool (decide (s = s' ∧ l = l' ∧ t = t')))))
  | _ => none

def TS0 : Table := [(42, sLimbs)]
theorem TS0_ok : TabOk TS0 := TabOk.cons ok_sameNat8 TabOk.nil

def sLight3 : List RV → Option (Prop × Res)
  | [.agg [.b (.val (.bool s)), .b (.nat l), .b (.nat t)], .one (.b (.val (.int .i64 n)))] => some (True, .r (.val (.bool (decide ((l.length : Int) ≤ n ∧ (t.length : Int) ≤ n)))))
  | _ => none

def samePR (p q : PR) : Bool := decide (p.s = q.s ∧ p.l = q.l ∧ p.t = q.t) && decide (p.z = q.z ∧ p.k = q.k ∧ p.u = q.u)
theorem samePR_iff {p q : PR} : samePR p q = true ↔ p = q := by
  obtain ⟨s, l, t, z, k, u⟩ := p
  obtain ⟨s', l', t', z', k', u'⟩ := q
  simp only [samePR, Bool.and_eq_true, decide_eq_true_eq, PR.mk.injEq]
  constructor
  · rintro ⟨⟨h1, h2, h3⟩, h4, h5, h6⟩; exact ⟨h1, h2, h3, h4, h5, h6⟩
  · rintro ⟨h1, h2, h3, h4, h5, h6⟩; exact ⟨⟨h1, h2, h3⟩, h4, h5, h6⟩
/-- Whether two lists of points have the same cells. -/
def sameL : List PR → List PR → Bool
  | [], [] => true
  | p :: ps, q :: qs => samePR p q && sameL ps qs
  | _, _ => false
theorem sameL_iff : ∀ {ps qs : List PR}, sameL ps qs = true ↔ ps = qs
  | [], [] => by simp [sameL]
  | p :: ps, q :: qs => by simp [sameL, samePR_iff, sameL_iff]
  | [], _ :: _ => by simp [sameL]
  | _ :: _, [] => by simp [sameL]
theorem sameL_ne {ps qs : List PR} (h : ps ≠ qs) : sameL ps qs = false := by
  cases hs : sameL ps qs with
  | true => exact absurd (sameL_iff.1 hs) h
  | false => rfl

/-- Whether the limbs are short. -/
def lightPR (n : Int) (p : PR) : Bool := decide ((p.l.length : Int) ≤ n ∧ (p.t.length : Int) ≤ n) && decide ((p.k.length : Int) ≤ n ∧ (p.u.length : Int) ≤ n)
theorem lightPR_le {n : Nat} {p : PR} (h : lightPR (n : Int) p = true) : p.Le n := by
  simp only [lightPR, Bool.and_eq_true, decide_eq_true_eq] at h
  exact ⟨by omega, by omega, by omega, by omega⟩

end Go.Gm
