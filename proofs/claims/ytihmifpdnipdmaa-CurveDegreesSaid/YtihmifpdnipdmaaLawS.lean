/-
  LawS: several texts in one file. Plain theorems; no condition.
-/
import Derived.Test.YtihmifpdnipdmaaPts
import Derived.Test.YtihmifpdnipdmaaCurveC
import Derived.Test.YtihmifpdnipdmaaCurveE
import Derived.Test.YtihmifpdnipdmaaCurveL
/-
  Whether ratios and points are equal field by field, and whether they are short. Plain theorems; no condition.
-/
set_option linter.all false
namespace Go.Gm
open Go.Proofs

def sLimbs : List RV → Option (Prop × Res)
  | [.one (.b (.nat l)), .one (.b (.nat l'))] => some (l.length ≤ 1000000, .r (.val (.bool (decide (l = l')))))
  | _ => none

set_option maxHeartbeats 1000000 in
theorem ok_limbs3 : Ok1 106 sLimbs := by
  refine ok_of TabOk.nil Try.func106 rfl (by kernel_rfl) ?_
  intro xs pre res h hp hlim
  unfold sLimbs at h
  split at h
  · rename_i l l'
    cases h
    refine And.intro (Nat.le_of_ble_eq_true rfl) ?_
    repeat first | refine And.intro rfl ?_ | refine Or.inl (And.intro rfl ?_) | refine Or.inr (And.intro rfl ?_) | refine And.intro (fun (_ : true = true) => ?_) (fun (h : true = false) => Bool.noConfusion h) | refine And.intro (fun (h : false = true) => Bool.noConfusion h) (fun (_ : false = false) => ?_)
    refine And.intro (fun hc => ?_) (fun hc => ?_)
    · have hne : l.length ≠ l'.length := by
        intro h
        rw [h] at hc
        simp at hc
      repeat first | refine And.intro rfl ?_ | refine Or.inl (And.intro rfl ?_) | refine Or.inr (And.intro rfl ?_) | refine And.intro (fun (_ : true = true) => ?_) (fun (h : true = false) => Bool.noConfusion h) | refine And.intro (fun (h : false = true) => Bool.noConfusion h) (fun (_ : false = false) => ?_)
      exact resB (decide_eq_false (fun h => hne (by rw [h]))).symm
    · have hle : l.length = l'.length := by
        have : ((l.length : Int) != (l'.length : Int)) = false := hc
        simp at this
        omega
      repeat first | refine And.intro rfl ?_ | refine Or.inl (And.intro rfl ?_) | refine Or.inr (And.intro rfl ?_) | refine And.intro (fun (_ : true = true) => ?_) (fun (h : true = false) => Bool.noConfusion h) | refine And.intro (fun (h : false = true) => Bool.noConfusion h) (fun (_ : false = false) => ?_)
      refine Exists.intro {i : Nat // i ≤ l.length ∧ l.take i = l'.take i} (Exists.intro (fun i => ⟨[(0, .one (.nat l)), (1, .one (.nat l')), (5, .val (.int .i64 (i.1 : Nat)))], ⟨[], []⟩⟩) (Exists.intro (fun i => l.length - i.1) (Exists.intro ⟨0, Nat.zero_le _, by simp⟩ (And.intro ?_ ?_))))
      · repeat first | exact trivial | refine And.intro rfl ?_ | refine And.intro trivial ?_ | refine And.intro (And.intro rfl trivial) ?_ | refine And.intro (And.intro rfl (And.intro rfl trivial)) ?_
      · rintro ⟨i, hi, ht⟩
        repeat first | refine And.intro rfl ?_ | refine Or.inl (And.intro rfl ?_) | refine Or.inr (And.intro rfl ?_) | refine And.intro (fun (_ : true = true) => ?_) (fun (h : true = false) => Bool.noConfusion h) | refine And.intro (fun (h : false = true) => Bool.noConfusion h) (fun (_ : false = false) => ?_)
        refine And.intro (fun hc => ?_) (fun hc => ?_)
        · have hi' : (i : Int) < l.length := of_decide_eq_true hc
          repeat first | refine And.intro rfl ?_ | refine Or.inl (And.intro rfl ?_) | refine Or.inr (And.intro rfl ?_) | refine And.intro (fun (_ : true = true) => ?_) (fun (h : true = false) => Bool.noConfusion h) | refine And.intro (fun (h : false = true) => Bool.noConfusion h) (fun (_ : false = false) => ?_)
          refine And.intro (show 0 ≤ (i : Int) ∧ (i : Int) < (l.length : Int) by omega) ?_
          repeat first | refine And.intro rfl ?_ | refine Or.inl (And.intro rfl ?_) | refine Or.inr (And.intro rfl ?_) | refine And.intro (fun (_ : true = true) => ?_) (fun (h : true = false) => Bool.noConfusion h) | refine And.intro (fun (h : false = true) => Bool.noConfusion h) (fun (_ : false = false) => ?_)
          refine And.intro (show 0 ≤ (i : Int) ∧ (i : Int) < (l'.length : Int) by omega) ?_
          repeat first | refine And.intro rfl ?_ | refine Or.inl (And.intro rfl ?_) | refine Or.inr (And.intro rfl ?_) | refine And.intro (fun (_ : true = true) => ?_) (fun (h : true = false) => Bool.noConfusion h) | refine And.intro (fun (h : false = true) => Bool.noConfusion h) (fun (_ : false = false) => ?_)
          refine And.intro (fun hx => ?_) (fun hx => ?_)
          · have hx : (((l.getD (i : Int).toNat 0 : Nat) : Int) != ((l'.getD (i : Int).toNat 0 : Nat) : Int)) = true := hx
            repeat first | refine And.intro rfl ?_ | refine Or.inl (And.intro rfl ?_) | refine Or.inr (And.intro rfl ?_) | refine And.intro (fun (_ : true = true) => ?_) (fun (h : true = false) => Bool.noConfusion h) | refine And.intro (fun (h : false = true) => Bool.noConfusion h) (fun (_ : false = false) => ?_)
            refine resB (decide_eq_false (fun h => ?_)).symm
            rw [h] at hx
            simp at hx
          · have hx : (((l.getD (i : Int).toNat 0 : Nat) : Int) != ((l'.getD (i : Int).toNat 0 : Nat) : Int)) = false := hx
            rw [Int.toNat_natCast] at hx
            have hx : l.getD i 0 = l'.getD i 0 := by
              simp only [bne_eq_false_iff_eq] at hx
              omega
            repeat first | refine And.intro rfl ?_ | refine Or.inl (And.intro rfl ?_) | refine Or.inr (And.intro rfl ?_) | refine And.intro (fun (_ : true = true) => ?_) (fun (h : true = false) => Bool.noConfusion h) | refine And.intro (fun (h : false = true) => Bool.noConfusion h) (fun (_ : false = false) => ?_)
            refine Exists.intro ⟨i + 1, by omega, by rw [take_snoc l 0 i (by omega), take_snoc l' 0 i (by omega), ht, hx]⟩ (And.intro (show l.length - (i + 1) < l.length - i by omega) ?_)
            repeat first | exact trivial | refine And.intro rfl ?_ | refine And.intro trivial ?_ | refine And.intro (And.intro rfl trivial) ?_ | refine And.intro (And.intro rfl (And.intro rfl trivial)) ?_
            exact And.intro (avI (show IntKind.i64.wrap ((i : Int) + 1) = ((i + 1 : Nat) : Int) by rw [wI (by omega) (by omega)]; omega)) trivial
        · have hi' : ¬ (i : Int) < l.length := of_decide_eq_false hc
          have hil : i = l.length := by omega
          rw [hil, List.take_length, hle, List.take_length] at ht
          repeat first | refine And.intro rfl ?_ | refine Or.inl (And.intro rfl ?_) | refine Or.inr (And.intro rfl ?_) | refine And.intro (fun (_ : true = true) => ?_) (fun (h : true = false) => Bool.noConfusion h) | refine And.intro (fun (h : false = true) => Bool.noConfusion h) (fun (_ : false = false) => ?_)
          exact resB (decide_eq_true ht).symm
  · cases h
set_option maxHeartbeats 1000000 in
theorem ok_sameNat8 : Ok1 131 sLimbs := by
  refine ok_of TabOk.nil Try.func131 rfl (by kernel_rfl) ?_
  intro xs pre res h hp hlim
  unfold sLimbs at h
  split at h
  · rename_i l l'
    cases h
    refine And.intro (Nat.le_of_ble_eq_true rfl) ?_
    repeat first | refine And.intro rfl ?_ | refine Or.inl (And.intro rfl ?_) | refine Or.inr (And.intro rfl ?_) | refine And.intro (fun (_ : true = true) => ?_) (fun (h : true = false) => Bool.noConfusion h) | refine And.intro (fun (h : false = true) => Bool.noConfusion h) (fun (_ : false = false) => ?_)
    refine And.intro (fun hc => ?_) (fun hc => ?_)
    · have hne : l.length ≠ l'.length := by
        intro h
        rw [h] at hc
        simp at hc
      repeat first | refine And.intro rfl ?_ | refine Or.inl (And.intro rfl ?_) | refine Or.inr (And.intro rfl ?_) | refine And.intro (fun (_ : true = true) => ?_) (fun (h : true = false) => Bool.noConfusion h) | refine And.intro (fun (h : false = true) => Bool.noConfusion h) (fun (_ : false = false) => ?_)
      exact resB (decide_eq_false (fun h => hne (by rw [h]))).symm
    · have hle : l.length = l'.length := by
        have : ((l.length : Int) != (l'.length : Int)) = false := hc
        simp at this
        omega
      repeat first | refine And.intro rfl ?_ | refine Or.inl (And.intro rfl ?_) | refine Or.inr (And.intro rfl ?_) | refine And.intro (fun (_ : true = true) => ?_) (fun (h : true = false) => Bool.noConfusion h) | refine And.intro (fun (h : false = true) => Bool.noConfusion h) (fun (_ : false = false) => ?_)
      refine Exists.intro {i : Nat // i ≤ l.length ∧ l.take i = l'.take i} (Exists.intro (fun i => ⟨[(0, .one (.nat l)), (1, .one (.nat l')), (5, .val (.int .i64 (i.1 : Nat)))], ⟨[], []⟩⟩) (Exists.intro (fun i => l.length - i.1) (Exists.intro ⟨0, Nat.zero_le _, by simp⟩ (And.intro ?_ ?_))))
      · repeat first | exact trivial | refine And.intro rfl ?_ | refine And.intro trivial ?_ | refine And.intro (And.intro rfl trivial) ?_ | refine And.intro (And.intro rfl (And.intro rfl trivial)) ?_
      · rintro ⟨i, hi, ht⟩
        repeat first | refine And.intro rfl ?_ | refine Or.inl (And.intro rfl ?_) | refine Or.inr (And.intro rfl ?_) | refine And.intro (fun (_ : true = true) => ?_) (fun (h : true = false) => Bool.noConfusion h) | refine And.intro (fun (h : false = true) => Bool.noConfusion h) (fun (_ : false = false) => ?_)
        refine And.intro (fun hc => ?_) (fun hc => ?_)
        · have hi' : (i : Int) < l.length := of_decide_eq_true hc
          repeat first | refine And.intro rfl ?_ | refine Or.inl (And.intro rfl ?_) | refine Or.inr (And.intro rfl ?_) | refine And.intro (fun (_ : true = true) => ?_) (fun (h : true = false) => Bool.noConfusion h) | refine And.intro (fun (h : false = true) => Bool.noConfusion h) (fun (_ : false = false) => ?_)
          refine And.intro (show 0 ≤ (i : Int) ∧ (i : Int) < (l.length : Int) by omega) ?_
          repeat first | refine And.intro rfl ?_ | refine Or.inl (And.intro rfl ?_) | refine Or.inr (And.intro rfl ?_) | refine And.intro (fun (_ : true = true) => ?_) (fun (h : true = false) => Bool.noConfusion h) | refine And.intro (fun (h : false = true) => Bool.noConfusion h) (fun (_ : false = false) => ?_)
          refine And.intro (show 0 ≤ (i : Int) ∧ (i : Int) < (l'.length : Int) by omega) ?_
          repeat first | refine And.intro rfl ?_ | refine Or.inl (And.intro rfl ?_) | refine Or.inr (And.intro rfl ?_) | refine And.intro (fun (_ : true = true) => ?_) (fun (h : true = false) => Bool.noConfusion h) | refine And.intro (fun (h : false = true) => Bool.noConfusion h) (fun (_ : false = false) => ?_)
          refine And.intro (fun hx => ?_) (fun hx => ?_)
          · have hx : (((l.getD (i : Int).toNat 0 : Nat) : Int) != ((l'.getD (i : Int).toNat 0 : Nat) : Int)) = true := hx
            repeat first | refine And.intro rfl ?_ | refine Or.inl (And.intro rfl ?_) | refine Or.inr (And.intro rfl ?_) | refine And.intro (fun (_ : true = true) => ?_) (fun (h : true = false) => Bool.noConfusion h) | refine And.intro (fun (h : false = true) => Bool.noConfusion h) (fun (_ : false = false) => ?_)
            refine resB (decide_eq_false (fun h => ?_)).symm
            rw [h] at hx
            simp at hx
          · have hx : (((l.getD (i : Int).toNat 0 : Nat) : Int) != ((l'.getD (i : Int).toNat 0 : Nat) : Int)) = false := hx
            rw [Int.toNat_natCast] at hx
            have hx : l.getD i 0 = l'.getD i 0 := by
              simp only [bne_eq_false_iff_eq] at hx
              omega
            repeat first | refine And.intro rfl ?_ | refine Or.inl (And.intro rfl ?_) | refine Or.inr (And.intro rfl ?_) | refine And.intro (fun (_ : true = true) => ?_) (fun (h : true = false) => Bool.noConfusion h) | refine And.intro (fun (h : false = true) => Bool.noConfusion h) (fun (_ : false = false) => ?_)
            refine Exists.intro ⟨i + 1, by omega, by rw [take_snoc l 0 i (by omega), take_snoc l' 0 i (by omega), ht, hx]⟩ (And.intro (show l.length - (i + 1) < l.length - i by omega) ?_)
            repeat first | exact trivial | refine And.intro rfl ?_ | refine And.intro trivial ?_ | refine And.intro (And.intro rfl trivial) ?_ | refine And.intro (And.intro rfl (And.intro rfl trivial)) ?_
            exact And.intro (avI (show IntKind.i64.wrap ((i : Int) + 1) = ((i + 1 : Nat) : Int) by rw [wI (by omega) (by omega)]; omega)) trivial
        · have hi' : ¬ (i : Int) < l.length := of_decide_eq_false hc
          have hil : i = l.length := by omega
          rw [hil, List.take_length, hle, List.take_length] at ht
          repeat first | refine And.intro rfl ?_ | refine Or.inl (And.intro rfl ?_) | refine Or.inr (And.intro rfl ?_) | refine And.intro (fun (_ : true = true) => ?_) (fun (h : true = false) => Bool.noConfusion h) | refine And.intro (fun (h : false = true) => Bool.noConfusion h) (fun (_ : false = false) => ?_)
          exact resB (decide_eq_true ht).symm
  · cases h

def sSameInt : List RV → Option (Prop × Res)
  | [.agg [.b (.val (.bool s)), .b (.nat l)], .agg [.b (.val (.bool s')), .b (.nat l')]] => some (l.length ≤ 1000000, .r (.val (.bool (decide (s = s' ∧ l = l')))))
  | _ => none
def sSameRat : List RV → Option (Prop × Res)
  | [.agg [.b (.val (.bool s)), .b (.nat l), .b (.nat t)], .agg [.b (.val (.bool s')), .b (.nat l'), .b (.nat t')]] => some (l.length ≤ 1000000 ∧ t.length ≤ 1000000, .r (.val (.bool (decide (s = s' ∧ l = l' ∧ t = t')))))
  | _ => none

def TS0 : Table := [(106, sLimbs), (131, sLimbs)]
theorem TS0_ok : TabOk TS0 := TabOk.cons ok_limbs3 (TabOk.cons ok_sameNat8 TabOk.nil)

theorem ok_SameInt3 : Ok1 105 sSameInt := by
  refine ok_of TS0_ok Try.func105 rfl (by kernel_rfl) ?_
  intro xs pre res h hp hlim
  unfold sSameInt at h
  split at h
  · rename_i s l s' l'
    cases h
    refine And.intro (Nat.le_of_ble_eq_true rfl) ?_
    repeat first | refine And.intro rfl ?_ | refine Or.inl (And.intro rfl ?_) | refine Or.inr (And.intro rfl ?_) | refine And.intro (fun (_ : true = true) => ?_) (fun (h : true = false) => Bool.noConfusion h) | refine And.intro (fun (h : false = true) => Bool.noConfusion h) (fun (_ : false = false) => ?_)
    by_cases hs : s = s'
    · subst hs
      refine Or.inl (And.intro (by simp) ?_)
      repeat first | refine And.intro rfl ?_ | refine Or.inl (And.intro rfl ?_) | refine Or.inr (And.intro rfl ?_) | refine And.intro (fun (_ : true = true) => ?_) (fun (h : true = false) => Bool.noConfusion h) | refine And.intro (fun (h : false = true) => Bool.noConfusion h) (fun (_ : false = false) => ?_)
      refine And.intro hp ?_
      repeat first | refine And.intro rfl ?_ | refine Or.inl (And.intro rfl ?_) | refine Or.inr (And.intro rfl ?_) | refine And.intro (fun (_ : true = true) => ?_) (fun (h : true = false) => Bool.noConfusion h) | refine And.intro (fun (h : false = true) => Bool.noConfusion h) (fun (_ : false = false) => ?_)
      exact resB (by simp)
    · refine Or.inr (And.intro (by simpa using hs) ?_)
      repeat first | refine And.intro rfl ?_ | refine Or.inl (And.intro rfl ?_) | refine Or.inr (And.intro rfl ?_) | refine And.intro (fun (_ : true = true) => ?_) (fun (h : true = false) => Bool.noConfusion h) | refine And.intro (fun (h : false = true) => Bool.noConfusion h) (fun (_ : false = false) => ?_)
      exact resB (by simp [hs])
  · cases h

def TS1 : Table := (105, sSameInt) :: TS0
theorem TS1_ok : TabOk TS1 := TabOk.cons ok_SameInt3 TS0_ok

theorem ok_SameRat3 : Ok1 41 sSameRat := by
  refine ok_of TS1_ok Try.func41 rfl (by kernel_rfl) ?_
  intro xs pre res h hp hlim
  unfold sSameRat at h
  split at h
  · rename_i s l t s' l' t'
    cases h
    refine And.intro (Nat.le_of_ble_eq_true rfl) ?_
    repeat first | refine And.intro rfl ?_ | refine Or.inl (And.intro rfl ?_) | refine Or.inr (And.intro rfl ?_) | refine And.intro (fun (_ : true = true) => ?_) (fun (h : true = false) => Bool.noConfusion h) | refine And.intro (fun (h : false = true) => Bool.noConfusion h) (fun (_ : false = false) => ?_)
    refine And.intro hp.1 ?_
    repeat first | refine And.intro rfl ?_ | refine Or.inl (And.intro rfl ?_) | refine Or.inr (And.intro rfl ?_) | refine And.intro (fun (_ : true = true) => ?_) (fun (h : true = false) => Bool.noConfusion h) | refine And.intro (fun (h : false = true) => Bool.noConfusion h) (fun (_ : false = false) => ?_)
    by_cases hs : s = s' ∧ l = l'
    · refine Or.inl (And.intro (decide_eq_true hs) ?_)
      repeat first | refine And.intro rfl ?_ | refine Or.inl (And.intro rfl ?_) | refine Or.inr (And.intro rfl ?_) | refine And.intro (fun (_ : true = true) => ?_) (fun (h : true = false) => Bool.noConfusion h) | refine And.intro (fun (h : false = true) => Bool.noConfusion h) (fun (_ : false = false) => ?_)
      refine And.intro hp.2 ?_
      repeat first | refine And.intro rfl ?_ | refine Or.inl (And.intro rfl ?_) | refine Or.inr (And.intro rfl ?_) | refine And.intro (fun (_ : true = true) => ?_) (fun (h : true = false) => Bool.noConfusion h) | refine And.intro (fun (h : false = true) => Bool.noConfusion h) (fun (_ : false = false) => ?_)
      exact resB (by simp [hs])
    · refine Or.inr (And.intro (decide_eq_false hs) ?_)
      repeat first | refine And.intro rfl ?_ | refine Or.inl (And.intro rfl ?_) | refine Or.inr (And.intro rfl ?_) | refine And.intro (fun (_ : true = true) => ?_) (fun (h : true = false) => Bool.noConfusion h) | refine And.intro (fun (h : false = true) => Bool.noConfusion h) (fun (_ : false = false) => ?_)
      exact resB (decide_eq_false (fun h => hs ⟨h.1, h.2.1⟩)).symm
  · cases h

def sLight3 : List RV → Option (Prop × Res)
  | [.agg [.b (.val (.bool s)), .b (.nat l), .b (.nat t)], .one (.b (.val (.int .i64 n)))] => some (True, .r (.val (.bool (decide ((l.length : Int) ≤ n ∧ (t.length : Int) ≤ n)))))
  | _ => none

theorem ok_Light3 : Ok1 38 sLight3 := by
  refine ok_of TS0_ok Try.func38 rfl (by kernel_rfl) ?_
  intro xs pre res h hp hlim
  unfold sLight3 at h
  split at h
  · rename_i s l t n
    cases h
    refine And.intro (Nat.le_of_ble_eq_true rfl) ?_
    repeat first | refine And.intro rfl ?_ | refine Or.inl (And.intro rfl ?_) | refine Or.inr (And.intro rfl ?_) | refine And.intro (fun (_ : true = true) => ?_) (fun (h : true = false) => Bool.noConfusion h) | refine And.intro (fun (h : false = true) => Bool.noConfusion h) (fun (_ : false = false) => ?_)
    by_cases h1 : (l.length : Int) ≤ n
    · refine Or.inl (And.intro (decide_eq_true h1) ?_)
      repeat first | refine And.intro rfl ?_ | refine Or.inl (And.intro rfl ?_) | refine Or.inr (And.intro rfl ?_) | refine And.intro (fun (_ : true = true) => ?_) (fun (h : true = false) => Bool.noConfusion h) | refine And.intro (fun (h : false = true) => Bool.noConfusion h) (fun (_ : false = false) => ?_)
      exact resB (by simp [h1])
    · refine Or.inr (And.intro (decide_eq_false h1) ?_)
      repeat first | refine And.intro rfl ?_ | refine Or.inl (And.intro rfl ?_) | refine Or.inr (And.intro rfl ?_) | refine And.intro (fun (_ : true = true) => ?_) (fun (h : true = false) => Bool.noConfusion h) | refine And.intro (fun (h : false = true) => Bool.noConfusion h) (fun (_ : false = false) => ?_)
      exact resB (by simp [h1])
  · cases h

def samePR (p q : PR) : Bool := decide (p.s = q.s ∧ p.l = q.l ∧ p.t = q.t) && decide (p.z = q.z ∧ p.k = q.k ∧ p.u = q.u)
theorem samePR_iff {p q : PR} : samePR p q = true ↔ p = q := by
  obtain ⟨s, l, t, z, k, u⟩ := p
  obtain ⟨s', l', t', z', k', u'⟩ := q
  simp only [samePR, Bool.and_eq_true, decide_eq_true_eq, PR.mk.injEq]
  constructor
  · rintro ⟨⟨h1, h2, h3⟩, h4, h5, h6⟩; exact ⟨h1, h2, h3, h4, h5, h6⟩
  · rintro ⟨h1, h2, h3, h4, h5, h6⟩; exact ⟨⟨h1, h2, h3⟩, h4, h5, h6⟩
/-- Whether two lists of points have the same cells. -/
def sameL : List PR → List PR → Bool
  | [], [] => true
  | p :: ps, q :: qs => samePR p q && sameL ps qs
  | _, _ => false
theorem sameL_iff : ∀ {ps qs : List PR}, sameL ps qs = true ↔ ps = qs
  | [], [] => by simp [sameL]
  | p :: ps, q :: qs => by simp [sameL, samePR_iff, sameL_iff]
  | [], _ :: _ => by simp [sameL]
  | _ :: _, [] => by simp [sameL]
theorem sameL_ne {ps qs : List PR} (h : ps ≠ qs) : sameL ps qs = false := by
  cases hs : sameL ps qs with
  | true => exact absurd (sameL_iff.1 hs) h
  | false => rfl

/-- Whether the limbs are short. -/
def lightPR (n : Int) (p : PR) : Bool := decide ((p.l.length : Int) ≤ n ∧ (p.t.length : Int) ≤ n) && decide ((p.k.length : Int) ≤ n ∧ (p.u.length : Int) ≤ n)
theorem lightPR_le {n : Nat} {p : PR} (h : lightPR (n : Int) p = true) : p.Le n := by
  simp only [lightPR, Bool.and_eq_true, decide_eq_true_eq] at h
  exact ⟨by omega, by omega, by omega, by omega⟩

end Go.Gm

/-
  Whether lists of points are equal field by field, and whether they are short; lists of points made of integers. Plain theorems; no condition.
-/
namespace Go.Gm
open Go.Proofs

def TS2 : Table := [(41, sSameRat), (38, sLight3), (59, sPtOf)]
theorem TS2_ok : TabOk TS2 := TabOk.cons ok_SameRat3 (TabOk.cons ok_Light3 (TabOk.cons ok_ptOf TabOk.nil))

def sSame9 : List RV → Option (Prop × Res)
  | [.one (.sl 6 c), .one (.sl 6 d)] => some (ShP 1000000 c ∧ IsP d ∧ c.length ≤ 1000, .r (.val (.bool (sameL (ptsOf c) (ptsOf d)))))
  | _ => none

set_option maxHeartbeats 1000000 in
theorem ok_Same9 : Ok1 56 sSame9 := by
  refine ok_of TS2_ok Try.func56 rfl (by kernel_rfl) ?_
  intro xs pre res h hp hlim
  unfold sSame9 at h
  split at h
  · rename_i c d
    cases h
    obtain ⟨hsh, hd, hlen⟩ := hp
    obtain ⟨ps, rfl, hps, hpl⟩ := sh_le hsh
    obtain ⟨qs, hqs⟩ : ∃ qs, qs = ptsOf d := ⟨_, rfl⟩
    unfold IsP at hd
    rw [← hqs] at hd
    subst hd
    rw [ptsOf_B, ptsOf_B]
    rw [← hpl] at hlen
    clear hqs
    refine And.intro (Nat.le_of_ble_eq_true rfl) ?_
    repeat first | refine And.intro rfl ?_ | refine Or.inl (And.intro rfl ?_) | refine Or.inr (And.intro rfl ?_) | refine And.intro (fun (_ : true = true) => ?_) (fun (h : true = false) => Bool.noConfusion h) | refine And.intro (fun (h : false = true) => Bool.noConfusion h) (fun (_ : false = false) => ?_)
    refine And.intro (fun hc => ?_) (fun hc => ?_)
    · have hne : ps.length ≠ qs.length := by
        intro h
        have hc : (((ps.map ptB).length : Int) != ((qs.map ptB).length : Int)) = true := hc
        rw [List.length_map, List.length_map, h] at hc
        simp at hc
      repeat first | refine And.intro rfl ?_ | refine Or.inl (And.intro rfl ?_) | refine Or.inr (And.intro rfl ?_) | refine And.intro (fun (_ : true = true) => ?_) (fun (h : true = false) => Bool.noConfusion h) | refine And.intro (fun (h : false = true) => Bool.noConfusion h) (fun (_ : false = false) => ?_)
      exact resB (sameL_ne (fun h => hne (by rw [h]))).symm
    · have hle : ps.length = qs.length := by
        have hc : (((ps.map ptB).length : Int) != ((qs.map ptB).length : Int)) = false := hc
        rw [List.length_map, List.length_map] at hc
        simp at hc
        omega
      repeat first | refine And.intro rfl ?_ | refine Or.inl (And.intro rfl ?_) | refine Or.inr (And.intro rfl ?_) | refine And.intro (fun (_ : true = true) => ?_) (fun (h : true = false) => Bool.noConfusion h) | refine And.intro (fun (h : false = true) => Bool.noConfusion h) (fun (_ : false = false) => ?_)
      refine Exists.intro {i : Nat // i ≤ ps.length ∧ ps.take i = qs.take i} (Exists.intro (fun i => ⟨[(0, .one (.sl 6 (ps.map ptB))), (1, .one (.sl 6 (qs.map ptB))), (5, .val (.int .i64 (i.1 : Nat)))], ⟨[], []⟩⟩) (Exists.intro (fun i => ps.length - i.1) (Exists.intro ⟨0, Nat.zero_le _, by simp⟩ (And.intro ?_ ?_))))
      · repeat first | exact trivial | refine And.intro rfl ?_ | refine And.intro trivial ?_ | refine And.intro (And.intro rfl trivial) ?_ | refine And.intro (And.intro rfl (And.intro rfl trivial)) ?_
      · rintro ⟨i, hi, ht⟩
        repeat first | refine And.intro rfl ?_ | refine Or.inl (And.intro rfl ?_) | refine Or.inr (And.intro rfl ?_) | refine And.intro (fun (_ : true = true) => ?_) (fun (h : true = false) => Bool.noConfusion h) | refine And.intro (fun (h : false = true) => Bool.noConfusion h) (fun (_ : false = false) => ?_)
        refine And.intro (fun hc => ?_) (fun hc => ?_)
        · have hi' : (i : Int) < (((ps.map ptB).length : Nat) : Int) := of_decide_eq_true hc
          rw [List.length_map] at hi'
          have g1 : (ps.map ptB).getD (i : Int).toNat [] = ptB (ps.getD i PR.zero) := getD_ptB ps i (by omega)
          have g2 : (qs.map ptB).getD (i : Int).toNat [] = ptB (qs.getD i PR.zero) := getD_ptB qs i (by omega)
          have kp := hps _ (getD_mem' ps i PR.zero (by omega))
          have hne : ∀ {x y : PR}, ps.getD i PR.zero = x → qs.getD i PR.zero = y → x ≠ y → sameL ps qs = false := by
            intro x y hx hy hxy
            exact sameL_ne (fun h => hxy (by rw [← hx, ← hy, h]))
          obtain ⟨p, hpp⟩ : ∃ p, p = ps.getD i PR.zero := ⟨_, rfl⟩
          obtain ⟨q, hqq⟩ : ∃ q, q = qs.getD i PR.zero := ⟨_, rfl⟩
          rw [← hpp] at g1 kp
          rw [← hqq] at g2
          have r1 : 0 ≤ (i : Int) ∧ (i : Int) < (((ps.map ptB).length : Nat) : Int) := by rw [List.length_map]; omega
          have r2 : 0 ≤ (i : Int) ∧ (i : Int) < (((qs.map ptB).length : Nat) : Int) := by rw [List.length_map]; omega
          repeat first | refine And.intro rfl ?_ | refine Or.inl (And.intro rfl ?_) | refine Or.inr (And.intro rfl ?_) | refine And.intro (fun (_ : true = true) => ?_) (fun (h : true = false) => Bool.noConfusion h) | refine And.intro (fun (h : false = true) => Bool.noConfusion h) (fun (_ : false = false) => ?_)
          refine And.intro r1 ?_
          rw [g1]
          repeat first | refine And.intro rfl ?_ | refine Or.inl (And.intro rfl ?_) | refine Or.inr (And.intro rfl ?_) | refine And.intro (fun (_ : true = true) => ?_) (fun (h : true = false) => Bool.noConfusion h) | refine And.intro (fun (h : false = true) => Bool.noConfusion h) (fun (_ : false = false) => ?_)
          refine And.intro r2 ?_
          rw [g2]
          repeat first | refine And.intro rfl ?_ | refine Or.inl (And.intro rfl ?_) | refine Or.inr (And.intro rfl ?_) | refine And.intro (fun (_ : true = true) => ?_) (fun (h : true = false) => Bool.noConfusion h) | refine And.intro (fun (h : false = true) => Bool.noConfusion h) (fun (_ : false = false) => ?_)
          refine And.intro (And.intro kp.1 kp.2.1) ?_
          repeat first | refine And.intro rfl ?_ | refine Or.inl (And.intro rfl ?_) | refine Or.inr (And.intro rfl ?_) | refine And.intro (fun (_ : true = true) => ?_) (fun (h : true = false) => Bool.noConfusion h) | refine And.intro (fun (h : false = true) => Bool.noConfusion h) (fun (_ : false = false) => ?_)
          by_cases hx : p.s = q.s ∧ p.l = q.l ∧ p.t = q.t
          · refine Or.inl (And.intro (show (!decide (p.s = q.s ∧ p.l = q.l ∧ p.t = q.t)) = false by simp [hx]) ?_)
            repeat first | refine And.intro rfl ?_ | refine Or.inl (And.intro rfl ?_) | refine Or.inr (And.intro rfl ?_) | refine And.intro (fun (_ : true = true) => ?_) (fun (h : true = false) => Bool.noConfusion h) | refine And.intro (fun (h : false = true) => Bool.noConfusion h) (fun (_ : false = false) => ?_)
            refine And.intro r1 ?_
            rw [g1]
            repeat first | refine And.intro rfl ?_ | refine Or.inl (And.intro rfl ?_) | refine Or.inr (And.intro rfl ?_) | refine And.intro (fun (_ : true = true) => ?_) (fun (h : true = false) => Bool.noConfusion h) | refine And.intro (fun (h : false = true) => Bool.noConfusion h) (fun (_ : false = false) => ?_)
            refine And.intro r2 ?_
            rw [g2]
            repeat first | refine And.intro rfl ?_ | refine Or.inl (And.intro rfl ?_) | refine Or.inr (And.intro rfl ?_) | refine And.intro (fun (_ : true = true) => ?_) (fun (h : true = false) => Bool.noConfusion h) | refine And.intro (fun (h : false = true) => Bool.noConfusion h) (fun (_ : false = false) => ?_)
            refine And.intro (And.intro kp.2.2.1 kp.2.2.2) ?_
            repeat first | refine And.intro rfl ?_ | refine Or.inl (And.intro rfl ?_) | refine Or.inr (And.intro rfl ?_) | refine And.intro (fun (_ : true = true) => ?_) (fun (h : true = false) => Bool.noConfusion h) | refine And.intro (fun (h : false = true) => Bool.noConfusion h) (fun (_ : false = false) => ?_)
            refine And.intro (fun hy => ?_) (fun hy => ?_)
            · have hy : (!decide (p.z = q.z ∧ p.k = q.k ∧ p.u = q.u)) = true := hy
              repeat first | refine And.intro rfl ?_ | refine Or.inl (And.intro rfl ?_) | refine Or.inr (And.intro rfl ?_) | refine And.intro (fun (_ : true = true) => ?_) (fun (h : true = false) => Bool.noConfusion h) | refine And.intro (fun (h : false = true) => Bool.noConfusion h) (fun (_ : false = false) => ?_)
              refine resB (hne hpp.symm hqq.symm (fun h => ?_)).symm
              rw [h] at hy
              simp at hy
            · have hy : (!decide (p.z = q.z ∧ p.k = q.k ∧ p.u = q.u)) = false := hy
              have hpq : p = q := samePR_iff.1 (by simp only [samePR, Bool.and_eq_true]; exact ⟨decide_eq_true hx, by simpa using hy⟩)
              repeat first | refine And.intro rfl ?_ | refine Or.inl (And.intro rfl ?_) | refine Or.inr (And.intro rfl ?_) | refine And.intro (fun (_ : true = true) => ?_) (fun (h : true = false) => Bool.noConfusion h) | refine And.intro (fun (h : false = true) => Bool.noConfusion h) (fun (_ : false = false) => ?_)
              refine Exists.intro ⟨i + 1, by omega, by rw [take_snoc ps PR.zero i (by omega), take_snoc qs PR.zero i (by omega), ht, ← hpp, ← hqq, hpq]⟩ (And.intro (show ps.length - (i + 1) < ps.length - i by omega) ?_)
              repeat first | exact trivial | refine And.intro rfl ?_ | refine And.intro trivial ?_ | refine And.intro (And.intro rfl trivial) ?_ | refine And.intro (And.intro rfl (And.intro rfl trivial)) ?_
              exact And.intro (avI (show IntKind.i64.wrap ((i : Int) + 1) = ((i + 1 : Nat) : Int) by rw [wI (by omega) (by omega)]; omega)) trivial
          · refine Or.inr (And.intro (show (!decide (p.s = q.s ∧ p.l = q.l ∧ p.t = q.t)) = true by simp [hx]) ?_)
            repeat first | refine And.intro rfl ?_ | refine Or.inl (And.intro rfl ?_) | refine Or.inr (And.intro rfl ?_) | refine And.intro (fun (_ : true = true) => ?_) (fun (h : true = false) => Bool.noConfusion h) | refine And.intro (fun (h : false = true) => Bool.noConfusion h) (fun (_ : false = false) => ?_)
            refine resB (hne hpp.symm hqq.symm (fun h => hx ?_)).symm
            rw [h]
            exact ⟨rfl, rfl, rfl⟩
        · have hi' : ¬ (i : Int) < (((ps.map ptB).length : Nat) : Int) := of_decide_eq_false hc
          rw [List.length_map] at hi'
          have hil : i = ps.length := by omega
          rw [hil, List.take_length, hle, List.take_length] at ht
          repeat first | refine And.intro rfl ?_ | refine Or.inl (And.intro rfl ?_) | refine Or.inr (And.intro rfl ?_) | refine And.intro (fun (_ : true = true) => ?_) (fun (h : true = false) => Bool.noConfusion h) | refine And.intro (fun (h : false = true) => Bool.noConfusion h) (fun (_ : false = false) => ?_)
          exact resB (sameL_iff.2 ht).symm
  · cases h

def sLight9 : List RV → Option (Prop × Res)
  | [.one (.sl 6 c), .one (.b (.val (.int .i64 m))), .one (.b (.val (.int .i64 n)))] => some (IsP c ∧ m ≤ 1000, .r (.val (.bool (decide ((c.length : Int) ≤ m) && (ptsOf c).all (lightPR n)))))
  | _ => none

set_option maxHeartbeats 1000000 in
theorem ok_Light9 : Ok1 49 sLight9 := by
  refine ok_of TS2_ok Try.func49 rfl (by kernel_rfl) ?_
  intro xs pre res h hp hlim
  unfold sLight9 at h
  split at h
  · rename_i c m n
    cases h
    obtain ⟨hc1, hm⟩ := hp
    obtain ⟨ps, hps⟩ : ∃ ps, ps = ptsOf c := ⟨_, rfl⟩
    unfold IsP at hc1
    rw [← hps] at hc1
    subst hc1
    rw [ptsOf_B]
    clear hps
    refine And.intro (Nat.le_of_ble_eq_true rfl) ?_
    repeat first | refine And.intro rfl ?_ | refine Or.inl (And.intro rfl ?_) | refine Or.inr (And.intro rfl ?_) | refine And.intro (fun (_ : true = true) => ?_) (fun (h : true = false) => Bool.noConfusion h) | refine And.intro (fun (h : false = true) => Bool.noConfusion h) (fun (_ : false = false) => ?_)
    refine And.intro (fun hc => ?_) (fun hc => ?_)
    · have hc : ((ps.map ptB).length : Int) > m := of_decide_eq_true hc
      repeat first | refine And.intro rfl ?_ | refine Or.inl (And.intro rfl ?_) | refine Or.inr (And.intro rfl ?_) | refine And.intro (fun (_ : true = true) => ?_) (fun (h : true = false) => Bool.noConfusion h) | refine And.intro (fun (h : false = true) => Bool.noConfusion h) (fun (_ : false = false) => ?_)
      exact resB (by rw [decide_eq_false (show ¬ (((ps.map ptB).length : Nat) : Int) ≤ m by omega)]; rfl)
    · have hc : ¬ ((ps.map ptB).length : Int) > m := of_decide_eq_false hc
      rw [decide_eq_true (show (((ps.map ptB).length : Nat) : Int) ≤ m by omega)]
      rw [List.length_map] at hc
      repeat first | refine And.intro rfl ?_ | refine Or.inl (And.intro rfl ?_) | refine Or.inr (And.intro rfl ?_) | refine And.intro (fun (_ : true = true) => ?_) (fun (h : true = false) => Bool.noConfusion h) | refine And.intro (fun (h : false = true) => Bool.noConfusion h) (fun (_ : false = false) => ?_)
      refine Exists.intro {i : Nat // i ≤ ps.length ∧ (ps.take i).all (lightPR n) = true} (Exists.intro (fun i => ⟨[(0, .one (.sl 6 (ps.map ptB))), (2, .val (.int .i64 n)), (7, .val (.int .i64 (i.1 : Nat)))], ⟨[], []⟩⟩) (Exists.intro (fun i => ps.length - i.1) (Exists.intro ⟨0, Nat.zero_le _, by simp⟩ (And.intro ?_ ?_))))
      · repeat first | exact trivial | refine And.intro rfl ?_ | refine And.intro trivial ?_ | refine And.intro (And.intro rfl trivial) ?_ | refine And.intro (And.intro rfl (And.intro rfl trivial)) ?_
      · rintro ⟨i, hi, ht⟩
        repeat first | refine And.intro rfl ?_ | refine Or.inl (And.intro rfl ?_) | refine Or.inr (And.intro rfl ?_) | refine And.intro (fun (_ : true = true) => ?_) (fun (h : true = false) => Bool.noConfusion h) | refine And.intro (fun (h : false = true) => Bool.noConfusion h) (fun (_ : false = false) => ?_)
        refine And.intro (fun hc => ?_) (fun hc => ?_)
        · have hi' : (i : Int) < (((ps.map ptB).length : Nat) : Int) := of_decide_eq_true hc
          rw [List.length_map] at hi'
          have g1 : (ps.map ptB).getD (i : Int).toNat [] = ptB (ps.getD i PR.zero) := getD_ptB ps i (by omega)
          have r1 : 0 ≤ (i : Int) ∧ (i : Int) < (((ps.map ptB).length : Nat) : Int) := by rw [List.length_map]; omega
          have hno : lightPR n (ps.getD i PR.zero) = false → ps.all (lightPR n) = false := by
            intro h
            cases ha : ps.all (lightPR n) with
            | false => rfl
            | true =>
              have := (List.all_eq_true.1 ha) _ (getD_mem' ps i PR.zero (by omega))
              rw [h] at this
              cases this
          obtain ⟨p, hpp⟩ : ∃ p, p = ps.getD i PR.zero := ⟨_, rfl⟩
          rw [← hpp] at g1 hno
          repeat first | refine And.intro rfl ?_ | refine Or.inl (And.intro rfl ?_) | refine Or.inr (And.intro rfl ?_) | refine And.intro (fun (_ : true = true) => ?_) (fun (h : true = false) => Bool.noConfusion h) | refine And.intro (fun (h : false = true) => Bool.noConfusion h) (fun (_ : false = false) => ?_)
          refine And.intro r1 ?_
          rw [g1]
          repeat first | refine And.intro rfl ?_ | refine And.intro True.intro ?_ | refine Or.inl (And.intro rfl ?_) | refine Or.inr (And.intro rfl ?_) | refine And.intro (fun (_ : true = true) => ?_) (fun (h : true = false) => Bool.noConfusion h) | refine And.intro (fun (h : false = true) => Bool.noConfusion h) (fun (_ : false = false) => ?_)
          by_cases hx : (p.l.length : Int) ≤ n ∧ (p.t.length : Int) ≤ n
          · refine Or.inl (And.intro (show (!decide ((p.l.length : Int) ≤ n ∧ (p.t.length : Int) ≤ n)) = false by simp [hx]) ?_)
            repeat first | refine And.intro rfl ?_ | refine Or.inl (And.intro rfl ?_) | refine Or.inr (And.intro rfl ?_) | refine And.intro (fun (_ : true = true) => ?_) (fun (h : true = false) => Bool.noConfusion h) | refine And.intro (fun (h : false = true) => Bool.noConfusion h) (fun (_ : false = false) => ?_)
            refine And.intro r1 ?_
            rw [g1]
            repeat first | refine And.intro rfl ?_ | refine And.intro True.intro ?_ | refine Or.inl (And.intro rfl ?_) | refine Or.inr (And.intro rfl ?_) | refine And.intro (fun (_ : true = true) => ?_) (fun (h : true = false) => Bool.noConfusion h) | refine And.intro (fun (h : false = true) => Bool.noConfusion h) (fun (_ : false = false) => ?_)
            refine And.intro (fun hy => ?_) (fun hy => ?_)
            · have hy : (!decide ((p.k.length : Int) ≤ n ∧ (p.u.length : Int) ≤ n)) = true := hy
              repeat first | refine And.intro rfl ?_ | refine Or.inl (And.intro rfl ?_) | refine Or.inr (And.intro rfl ?_) | refine And.intro (fun (_ : true = true) => ?_) (fun (h : true = false) => Bool.noConfusion h) | refine And.intro (fun (h : false = true) => Bool.noConfusion h) (fun (_ : false = false) => ?_)
              refine resB (hno ?_).symm
              unfold lightPR
              rw [show decide ((p.k.length : Int) ≤ n ∧ (p.u.length : Int) ≤ n) = false from (Bool.not_eq_eq_eq_not.1 hy), Bool.and_false]
            · have hy : (!decide ((p.k.length : Int) ≤ n ∧ (p.u.length : Int) ≤ n)) = false := hy
              have hpl : lightPR n p = true := by
                unfold lightPR
                rw [decide_eq_true hx, show decide ((p.k.length : Int) ≤ n ∧ (p.u.length : Int) ≤ n) = true by simpa using hy]
                rfl
              repeat first | refine And.intro rfl ?_ | refine Or.inl (And.intro rfl ?_) | refine Or.inr (And.intro rfl ?_) | refine And.intro (fun (_ : true = true) => ?_) (fun (h : true = false) => Bool.noConfusion h) | refine And.intro (fun (h : false = true) => Bool.noConfusion h) (fun (_ : false = false) => ?_)
              refine Exists.intro ⟨i + 1, by omega, by rw [take_snoc ps PR.zero i (by omega), List.all_append, ht, ← hpp]; simp [hpl]⟩ (And.intro (show ps.length - (i + 1) < ps.length - i by omega) ?_)
              repeat first | exact trivial | refine And.intro rfl ?_ | refine And.intro trivial ?_ | refine And.intro (And.intro rfl trivial) ?_ | refine And.intro (And.intro rfl (And.intro rfl trivial)) ?_
              exact And.intro (avI (show IntKind.i64.wrap ((i : Int) + 1) = ((i + 1 : Nat) : Int) by rw [wI (by omega) (by omega)]; omega)) trivial
          · refine Or.inr (And.intro (show (!decide ((p.l.length : Int) ≤ n ∧ (p.t.length : Int) ≤ n)) = true by simp [hx]) ?_)
            repeat first | refine And.intro rfl ?_ | refine Or.inl (And.intro rfl ?_) | refine Or.inr (And.intro rfl ?_) | refine And.intro (fun (_ : true = true) => ?_) (fun (h : true = false) => Bool.noConfusion h) | refine And.intro (fun (h : false = true) => Bool.noConfusion h) (fun (_ : false = false) => ?_)
            refine resB (hno ?_).symm
            unfold lightPR
            rw [decide_eq_false hx, Bool.false_and]
        · have hi' : ¬ (i : Int) < (((ps.map ptB).length : Nat) : Int) := of_decide_eq_false hc
          rw [List.length_map] at hi'
          rw [List.take_of_length_le (by omega)] at ht
          repeat first | refine And.intro rfl ?_ | refine Or.inl (And.intro rfl ?_) | refine Or.inr (And.intro rfl ?_) | refine And.intro (fun (_ : true = true) => ?_) (fun (h : true = false) => Bool.noConfusion h) | refine And.intro (fun (h : false = true) => Bool.noConfusion h) (fun (_ : false = false) => ?_)
          exact resB (by rw [ht]; rfl)
  · cases h

def sOne : List RV → Option (Prop × Res)
  | [.agg [.b (.val (.bool s)), .b (.nat l), .b (.nat t), .b (.val (.bool z)), .b (.nat k), .b (.nat u)]] => some (True, .r (.one (.sl 6 [[.val (.bool s), .nat l, .nat t, .val (.bool z), .nat k, .nat u]])))
  | _ => none
theorem ok_one : Ok1 57 sOne := by
  refine ok_of TS2_ok Try.func57 rfl (by kernel_rfl) ?_
  intro xs pre res h hp hlim
  unfold sOne at h
  split at h
  · cases h
    refine And.intro (Nat.le_of_ble_eq_true rfl) ?_
    repeat first | refine And.intro rfl ?_ | refine Or.inl (And.intro rfl ?_) | refine Or.inr (And.intro rfl ?_) | refine And.intro (fun (_ : true = true) => ?_) (fun (h : true = false) => Bool.noConfusion h) | refine And.intro (fun (h : false = true) => Bool.noConfusion h) (fun (_ : false = false) => ?_)
    repeat first | refine And.intro rfl ?_ | refine And.intro True.intro ?_ | refine Or.inl (And.intro rfl ?_) | refine Or.inr (And.intro rfl ?_) | refine And.intro (fun (_ : true = true) => ?_) (fun (h : true = false) => Bool.noConfusion h) | refine And.intro (fun (h : false = true) => Bool.noConfusion h) (fun (_ : false = false) => ?_)
    rfl
  · cases h

def inB (n : Int) : List BV := [.val (.int .i64 n)]
def inOf : List BV → Int
  | [.val (.int .i64 n)] => n
  | _ => 0
def pairs : List Int → List (Rat × Rat)
  | a :: b :: l => ((a : Rat), (b : Rat)) :: pairs l
  | _ => []
theorem pairs_at : ∀ (l : List Int) (k : Nat), 2 * k + 1 < l.length → k < (pairs l).length ∧ (pairs l).getD k (0, 0) = (((l.getD (2 * k) 0 : Int) : Rat), ((l.getD (2 * k + 1) 0 : Int) : Rat))
  | [], _, h => by simp at h
  | [_], _, h => by simp at h
  | a :: b :: l, 0, _ => ⟨by simp [pairs], rfl⟩
  | a :: b :: l, k + 1, h => by
    obtain ⟨h1, h2⟩ := pairs_at l k (by simp at h; omega)
    exact ⟨by simp [pairs]; omega, h2⟩
theorem pairs_len : ∀ (l : List Int), 2 * (pairs l).length ≤ l.length ∧ l.length ≤ 2 * (pairs l).length + 1
  | [] => by simp [pairs]
  | [_] => by simp [pairs]
  | a :: b :: l => by have := pairs_len l; simp [pairs]; omega

def sPts : List RV → Option (Prop × Res)
  | [.one (.sl 1 c)] => some (c = (c.map inOf).map inB ∧ c.length ≤ 1000 ∧ ∀ n, n ∈ c.map inOf → InR n, .r (.one (.sl 6 (nB (pairs (c.map inOf))))))
  | _ => none

set_option maxHeartbeats 1000000 in
theorem ok_pts : Ok1 107 sPts := by
  refine ok_of TS2_ok Try.func107 rfl (by kernel_rfl) ?_
  intro xs pre res h hp hlim
  unfold sPts at h
  split at h
  · rename_i c
    cases h
    obtain ⟨hc1, hc2, hc3⟩ := hp
    obtain ⟨l, hl⟩ : ∃ l, l = c.map inOf := ⟨_, rfl⟩
    rw [← hl] at hc1 hc3 ⊢
    clear hl
    subst hc1
    rw [List.length_map] at hc2
    have hpl := pairs_len l
    have hget : ∀ i, i < l.length → (l.map inB).getD i [] = inB (l.getD i 0) := fun i hi => by simp [List.getD_eq_getElem?_getD, hi]
    refine And.intro (Nat.le_of_ble_eq_true rfl) ?_
    repeat first | refine And.intro rfl ?_ | refine Or.inl (And.intro rfl ?_) | refine Or.inr (And.intro rfl ?_) | refine And.intro (fun (_ : true = true) => ?_) (fun (h : true = false) => Bool.noConfusion h) | refine And.intro (fun (h : false = true) => Bool.noConfusion h) (fun (_ : false = false) => ?_)
    refine Exists.intro {k : Nat // k ≤ (pairs l).length} (Exists.intro (fun k => ⟨[(0, .one (.sl 1 (l.map inB))), (3, .own 0), (4, .val (.int .i64 ((2 * k.1 : Nat) : Int)))], ⟨[], [.s 38 6 (nB ((pairs l).take k.1))]⟩⟩) (Exists.intro (fun k => (pairs l).length - k.1) (Exists.intro ⟨0, Nat.zero_le _⟩ (And.intro ?_ ?_))))
    · repeat first | exact trivial | refine And.intro rfl ?_ | refine And.intro trivial ?_ | refine And.intro (And.intro rfl trivial) ?_ | refine And.intro (And.intro rfl (And.intro rfl trivial)) ?_
    · rintro ⟨k, hk⟩
      have hw : IntKind.i64.wrap (((2 * k : Nat) : Int) + 1) = ((2 * k + 1 : Nat) : Int) := by rw [wI (by omega) (by omega)]; omega
      repeat first | refine And.intro rfl ?_ | refine Or.inl (And.intro rfl ?_) | refine Or.inr (And.intro rfl ?_) | refine And.intro (fun (_ : true = true) => ?_) (fun (h : true = false) => Bool.noConfusion h) | refine And.intro (fun (h : false = true) => Bool.noConfusion h) (fun (_ : false = false) => ?_)
      refine And.intro (fun hc => ?_) (fun hc => ?_)
      · have hc : IntKind.i64.wrap (((2 * k : Nat) : Int) + 1) < (((l.map inB).length : Nat) : Int) := of_decide_eq_true hc
        rw [hw, List.length_map] at hc
        obtain ⟨a1, a2⟩ := pairs_at l k (by omega)
        have g1 : (l.map inB).getD ((2 * k : Nat) : Int).toNat [] = inB (l.getD (2 * k) 0) := by rw [Int.toNat_natCast]; exact hget _ (by omega)
        have g2 : (l.map inB).getD (IntKind.i64.wrap (((2 * k : Nat) : Int) + 1)).toNat [] = inB (l.getD (2 * k + 1) 0) := by rw [hw, Int.toNat_natCast]; exact hget _ (by omega)
        repeat first | refine And.intro rfl ?_ | refine Or.inl (And.intro rfl ?_) | refine Or.inr (And.intro rfl ?_) | refine And.intro (fun (_ : true = true) => ?_) (fun (h : true = false) => Bool.noConfusion h) | refine And.intro (fun (h : false = true) => Bool.noConfusion h) (fun (_ : false = false) => ?_)
        refine And.intro (show 0 ≤ ((2 * k : Nat) : Int) ∧ ((2 * k : Nat) : Int) < (((l.map inB).length : Nat) : Int) by rw [List.length_map]; omega) ?_
        rw [g1]
        repeat first | refine And.intro rfl ?_ | refine Or.inl (And.intro rfl ?_) | refine Or.inr (And.intro rfl ?_) | refine And.intro (fun (_ : true = true) => ?_) (fun (h : true = false) => Bool.noConfusion h) | refine And.intro (fun (h : false = true) => Bool.noConfusion h) (fun (_ : false = false) => ?_)
        refine And.intro (show 0 ≤ IntKind.i64.wrap (((2 * k : Nat) : Int) + 1) ∧ IntKind.i64.wrap (((2 * k : Nat) : Int) + 1) < (((l.map inB).length : Nat) : Int) by rw [hw, List.length_map]; omega) ?_
        rw [g2]
        repeat first | refine And.intro rfl ?_ | refine Or.inl (And.intro rfl ?_) | refine Or.inr (And.intro rfl ?_) | refine And.intro (fun (_ : true = true) => ?_) (fun (h : true = false) => Bool.noConfusion h) | refine And.intro (fun (h : false = true) => Bool.noConfusion h) (fun (_ : false = false) => ?_)
        refine And.intro (And.intro (hc3 _ (getD_mem' l _ 0 (by omega))) (hc3 _ (getD_mem' l _ 0 (by omega)))) ?_
        repeat first | refine And.intro rfl ?_ | refine And.intro True.intro ?_ | refine Or.inl (And.intro rfl ?_) | refine Or.inr (And.intro rfl ?_) | refine And.intro (fun (_ : true = true) => ?_) (fun (h : true = false) => Bool.noConfusion h) | refine And.intro (fun (h : false = true) => Bool.noConfusion h) (fun (_ : false = false) => ?_)
        refine And.intro (show (nB ((pairs l).take k)).length + 1 ≤ 1000000 by rw [nB_len, List.length_take]; omega) ?_
        repeat first | refine And.intro rfl ?_ | refine Or.inl (And.intro rfl ?_) | refine Or.inr (And.intro rfl ?_) | refine And.intro (fun (_ : true = true) => ?_) (fun (h : true = false) => Bool.noConfusion h) | refine And.intro (fun (h : false = true) => Bool.noConfusion h) (fun (_ : false = false) => ?_)
        refine Exists.intro ⟨k + 1, by omega⟩ (And.intro (show (pairs l).length - (k + 1) < (pairs l).length - k by omega) ?_)
        repeat first | exact trivial | refine And.intro rfl ?_ | refine And.intro trivial ?_ | refine And.intro (And.intro rfl trivial) ?_ | refine And.intro (And.intro rfl (And.intro rfl trivial)) ?_
        refine And.intro (And.intro (rwSl ?_) trivial) ?_
        · show nB ((pairs l).take k) ++ [ptB (prQ (((l.getD (2 * k) 0 : Int) : Rat), ((l.getD (2 * k + 1) 0 : Int) : Rat)))] = nB ((pairs l).take (k + 1))
          rw [nB_snoc _ _ a1, a2]
        · repeat first | exact trivial | refine And.intro rfl ?_ | refine And.intro trivial ?_ | refine And.intro (And.intro rfl trivial) ?_ | refine And.intro (And.intro rfl (And.intro rfl trivial)) ?_
          exact And.intro (avI (show IntKind.i64.wrap (((2 * k : Nat) : Int) + 2) = ((2 * (k + 1) : Nat) : Int) by rw [wI (by omega) (by omega)]; omega)) trivial
      · have hc : ¬ IntKind.i64.wrap (((2 * k : Nat) : Int) + 1) < (((l.map inB).length : Nat) : Int) := of_decide_eq_false hc
        rw [hw, List.length_map] at hc
        repeat first | refine And.intro rfl ?_ | refine Or.inl (And.intro rfl ?_) | refine Or.inr (And.intro rfl ?_) | refine And.intro (fun (_ : true = true) => ?_) (fun (h : true = false) => Bool.noConfusion h) | refine And.intro (fun (h : false = true) => Bool.noConfusion h) (fun (_ : false = false) => ?_)
        refine resSl ?_
        show nB ((pairs l).take k) = nB (pairs l)
        rw [List.take_of_length_le (by omega)]
  · cases h

end Go.Gm

/-
  The statements about curves: the chapter's examples. Plain theorems; no condition.
-/
namespace Go.Gm
open Go.Proofs

def TE0 : Table := [(53, sAt), (93, sSplit), (98, sFlatten), (52, sReverse), (95, sBox), (56, sSame9), (49, sLight9), (57, sOne), (107, sPts), (38, sLight3), (55, sPtSame), (59, sPtOf)] ++ TPt1
theorem TE0_ok : TabOk TE0 := TabOk.append (TabOk.cons ok_At (TabOk.cons ok_Split (TabOk.cons ok_Flatten (TabOk.cons ok_Reverse (TabOk.cons ok_Box (TabOk.cons ok_Same9 (TabOk.cons ok_Light9 (TabOk.cons ok_one (TabOk.cons ok_pts (TabOk.cons ok_Light3 (TabOk.cons ok_ptSame (TabOk.cons ok_ptOf TabOk.nil)))))))))))) TPt1_ok

attribute [local irreducible] sameL bez leftQ rightQ fltQ boxLo boxHi mkRat rq pairs

theorem pts_pre (l : List Int) (h : l.length ≤ 1000) (h2 : ∀ n, n ∈ l → InR n) : l.map inB = ((l.map inB).map inOf).map inB ∧ (l.map inB).length ≤ 1000 ∧ ∀ n, n ∈ (l.map inB).map inOf → InR n := by
  have e : (l.map inB).map inOf = l := by
    rw [List.map_map]
    conv => rhs; rw [← List.map_id l]
    exact List.map_congr_left (fun n _ => rfl)
  rw [e, List.length_map]
  exact ⟨rfl, h, h2⟩

theorem ok_nB (L : List (Rat × Rat)) : okC (nB L) = decide (2 ≤ L.length ∧ L.length ≤ 4) := by unfold okC; rw [nB_len]
theorem vals_nB (L : List (Rat × Rat)) : valsOf (nB L) = L := valsOf_Q L
theorem sh_nB {n m : Nat} {L : List (Rat × Rat)} (h : ∀ p, p ∈ L → Sp n p) (hm : n ≤ m) : ShP m (nB L) := by
  refine ⟨isP_B _, ?_⟩
  unfold nB
  rw [ptsOf_B]
  intro p hp
  obtain ⟨q, hq, rfl⟩ := List.mem_map.1 hp
  exact prQ_le (h q hq) hm
theorem same_nB {L M : List (Rat × Rat)} (h : L = M) : sameL (ptsOf (nB L)) (ptsOf (nB M)) = true := by
  subst h
  exact sameL_iff.2 rfl
theorem szB {q : Rat} (h : q.num.natAbs < 4294967296 ∧ q.den < 4294967296) : Sz 1 q := ⟨by rw [Nat.pow_one]; exact h.1, by rw [Nat.pow_one]; exact h.2⟩
/-- Lists of small numbers. -/
def smallQ (L : List (Rat × Rat)) : Bool := L.all fun p => decide (p.1.num.natAbs < 4294967296 ∧ p.1.den < 4294967296) && decide (p.2.num.natAbs < 4294967296 ∧ p.2.den < 4294967296)
theorem small_sp {L : List (Rat × Rat)} (h : smallQ L = true) : ∀ p, p ∈ L → Sp 1 p := by
  intro p hp
  have := (List.all_eq_true.1 h) p hp
  simp only [Bool.and_eq_true, decide_eq_true_eq] at this
  exact ⟨szB this.1, szB this.2⟩

set_option maxHeartbeats 2000000 in
theorem ok_example09 : Ok1 50 sTrue0 := by
  refine ok_of TE0_ok Try.func50 rfl (by kernel_rfl) ?_
  intro xs pre res h hp hlim
  unfold sTrue0 at h
  split at h
  · cases h
    refine And.intro (Nat.le_of_ble_eq_true rfl) ?_
    repeat first | refine And.intro rfl ?_ | refine Or.inl (And.intro rfl ?_) | refine Or.inr (And.intro rfl ?_) | refine And.intro (fun (_ : true = true) => ?_) (fun (h : true = false) => Bool.noConfusion h) | refine And.intro (fun (h : false = true) => Bool.noConfusion h) (fun (_ : false = false) => ?_)
    repeat first | refine And.intro rfl ?_ | refine And.intro True.intro ?_ | refine Or.inl (And.intro rfl ?_) | refine Or.inr (And.intro rfl ?_) | refine And.intro (fun (_ : true = true) => ?_) (fun (h : true = false) => Bool.noConfusion h) | refine And.intro (fun (h : false = true) => Bool.noConfusion h) (fun (_ : false = false) => ?_)
    refine And.intro (show _ ∧ _ ∧ _ ∧ _ ∧ _ ∧ DivFit _ from ⟨by decide, by decide, by decide, by decide, by decide, trivial⟩) ?_
    generalize eh : mkRat (sg _ _) _ = h
    have hz : Sz 1 h := by rw [← eh]; exact szB (by decide +kernel)
    have hq := rq_cq h
    repeat first | refine And.intro rfl ?_ | refine And.intro True.intro ?_ | refine Or.inl (And.intro rfl ?_) | refine Or.inr (And.intro rfl ?_) | refine And.intro (fun (_ : true = true) => ?_) (fun (h : true = false) => Bool.noConfusion h) | refine And.intro (fun (h : false = true) => Bool.noConfusion h) (fun (_ : false = false) => ?_)
    refine And.intro (pts_pre [0, 0, 0, 4, 4, 4] (by decide) (by decide)) ?_
    generalize eC : pairs _ = C
    have hC : C.length = 3 := by rw [← eC]; decide +kernel
    have sC : ∀ p, p ∈ C → Sp 1 p := small_sp (by rw [← eC]; decide +kernel)
    have oC : okC (nB C) = true := by rw [ok_nB, hC]; rfl
    have vC := vals_nB C
    repeat first | refine And.intro rfl ?_ | refine And.intro True.intro ?_ | refine Or.inl (And.intro rfl ?_) | refine Or.inr (And.intro rfl ?_) | refine And.intro (fun (_ : true = true) => ?_) (fun (h : true = false) => Bool.noConfusion h) | refine And.intro (fun (h : false = true) => Bool.noConfusion h) (fun (_ : false = false) => ?_)
    refine And.intro (And.intro (sh_nB sC (by decide)) (And.intro (hz.lenN (by decide)) (hz.lenD (by decide)))) ?_
    rw [oC, vC, hq]
    generalize eP : bez C h = P
    have sP : Sp 1 P := small_sp (L := [P]) (by rw [← eP, ← eC, ← eh]; decide +kernel) P (by simp)
    repeat first | refine And.intro rfl ?_ | refine And.intro True.intro ?_ | refine Or.inl (And.intro rfl ?_) | refine Or.inr (And.intro rfl ?_) | refine And.intro (fun (_ : true = true) => ?_) (fun (h : true = false) => Bool.noConfusion h) | refine And.intro (fun (h : false = true) => Bool.noConfusion h) (fun (_ : false = false) => ?_)
    refine And.intro (pts_pre [0, 0, 0, 8, 8, 8, 8, 0] (by decide) (by decide)) ?_
    generalize eD : pairs _ = D
    have hD : D.length = 4 := by rw [← eD]; decide +kernel
    have sD : ∀ p, p ∈ D → Sp 1 p := small_sp (by rw [← eD]; decide +kernel)
    have oD : okC (nB D) = true := by rw [ok_nB, hD]; rfl
    have vD := vals_nB D
    repeat first | refine And.intro rfl ?_ | refine And.intro True.intro ?_ | refine Or.inl (And.intro rfl ?_) | refine Or.inr (And.intro rfl ?_) | refine And.intro (fun (_ : true = true) => ?_) (fun (h : true = false) => Bool.noConfusion h) | refine And.intro (fun (h : false = true) => Bool.noConfusion h) (fun (_ : false = false) => ?_)
    refine And.intro (And.intro (sh_nB sD (by decide)) (And.intro (hz.lenN (by decide)) (hz.lenD (by decide)))) ?_
    rw [oD, vD, hq]
    generalize eQ : bez D h = Q
    have sQ : Sp 1 Q := small_sp (L := [Q]) (by rw [← eQ, ← eD, ← eh]; decide +kernel) Q (by simp)
    repeat first | refine And.intro rfl ?_ | refine And.intro True.intro ?_ | refine Or.inl (And.intro rfl ?_) | refine Or.inr (And.intro rfl ?_) | refine And.intro (fun (_ : true = true) => ?_) (fun (h : true = false) => Bool.noConfusion h) | refine And.intro (fun (h : false = true) => Bool.noConfusion h) (fun (_ : false = false) => ?_)
    refine And.intro (And.intro (sh_nB sC (by decide)) (And.intro (hz.lenN (by decide)) (hz.lenD (by decide)))) ?_
    rw [oC, vC, hq]
    generalize eA : leftQ C h = A
    generalize eB : rightQ C h = B'
    have sA : ∀ p, p ∈ A → Sp 1 p := small_sp (by rw [← eA, ← eC, ← eh]; decide +kernel)
    have sB : ∀ p, p ∈ B' → Sp 1 p := small_sp (by rw [← eB, ← eC, ← eh]; decide +kernel)
    repeat first | refine And.intro rfl ?_ | refine And.intro True.intro ?_ | refine Or.inl (And.intro rfl ?_) | refine Or.inr (And.intro rfl ?_) | refine And.intro (fun (_ : true = true) => ?_) (fun (h : true = false) => Bool.noConfusion h) | refine And.intro (fun (h : false = true) => Bool.noConfusion h) (fun (_ : false = false) => ?_)
    refine And.intro (And.intro (sh_nB sC (by decide)) (by decide)) ?_
    rw [oC, vC]
    generalize eF : fltQ C _ = F
    have sF : ∀ p, p ∈ F → Sp 1 p := small_sp (by rw [← eF, ← eC]; decide +kernel)
    repeat first | refine And.intro rfl ?_ | refine And.intro True.intro ?_ | refine Or.inl (And.intro rfl ?_) | refine Or.inr (And.intro rfl ?_) | refine And.intro (fun (_ : true = true) => ?_) (fun (h : true = false) => Bool.noConfusion h) | refine And.intro (fun (h : false = true) => Bool.noConfusion h) (fun (_ : false = false) => ?_)
    refine And.intro (sh_nB sC (by decide)) ?_
    rw [oC, vC]
    generalize eLo : boxLo C = lo
    generalize eHi : boxHi C = hi
    have sL : ∀ p, p ∈ [lo, hi] → Sp 1 p := small_sp (by rw [← eLo, ← eHi, ← eC]; decide +kernel)
    repeat first | refine And.intro rfl ?_ | refine And.intro True.intro ?_ | refine Or.inl (And.intro rfl ?_) | refine Or.inr (And.intro rfl ?_) | refine And.intro (fun (_ : true = true) => ?_) (fun (h : true = false) => Bool.noConfusion h) | refine And.intro (fun (h : false = true) => Bool.noConfusion h) (fun (_ : false = false) => ?_)
    have hcut : (cutL (nB C) none (some 1)).length = 1 := by
      show ((nB C).take (1 : Int).toNat).length = 1
      rw [List.length_take, nB_len, hC]
      rfl
    have oC1 : okC (cutL (nB C) none (some 1)) = false := by unfold okC; rw [hcut]; rfl
    have sC1 : ShP 300 (cutL (nB C) none (some 1)) := by
      have e : cutL (nB C) none (some 1) = nB (C.take 1) := by
        show (nB C).take (1 : Int).toNat = nB (C.take 1)
        unfold nB nrm
        rw [List.map_take, List.map_take]
        rfl
      rw [e]
      exact sh_nB (fun p hp => sC p (List.mem_of_mem_take hp)) (by decide)
    refine And.intro (show 0 ≤ (1 : Int) ∧ (1 : Int) ≤ (((nB C).length : Nat) : Int) by rw [nB_len, hC]; decide) ?_
    repeat first | refine And.intro rfl ?_ | refine And.intro True.intro ?_ | refine Or.inl (And.intro rfl ?_) | refine Or.inr (And.intro rfl ?_) | refine And.intro (fun (_ : true = true) => ?_) (fun (h : true = false) => Bool.noConfusion h) | refine And.intro (fun (h : false = true) => Bool.noConfusion h) (fun (_ : false = false) => ?_)
    refine And.intro (And.intro sC1 (And.intro (hz.lenN (by decide)) (hz.lenD (by decide)))) ?_
    rw [oC1, hq]
    generalize bez (valsOf (cutL (nB C) none (some 1))) h = Z
    repeat first | refine And.intro rfl ?_ | refine And.intro True.intro ?_ | refine Or.inl (And.intro rfl ?_) | refine Or.inr (And.intro rfl ?_) | refine And.intro (fun (_ : true = true) => ?_) (fun (h : true = false) => Bool.noConfusion h) | refine And.intro (fun (h : false = true) => Bool.noConfusion h) (fun (_ : false = false) => ?_)
    refine And.intro (And.intro (sh_nB sC (by decide)) (by decide)) ?_
    rw [oC]
    repeat first | refine And.intro rfl ?_ | refine And.intro True.intro ?_ | refine Or.inl (And.intro rfl ?_) | refine Or.inr (And.intro rfl ?_) | refine And.intro (fun (_ : true = true) => ?_) (fun (h : true = false) => Bool.noConfusion h) | refine And.intro (fun (h : false = true) => Bool.noConfusion h) (fun (_ : false = false) => ?_)
    refine And.intro (pts_pre [1, 3] (by decide) (by decide)) ?_
    generalize e1 : pairs _ = E1
    repeat first | refine And.intro rfl ?_ | refine And.intro True.intro ?_ | refine Or.inl (And.intro rfl ?_) | refine Or.inr (And.intro rfl ?_) | refine And.intro (fun (_ : true = true) => ?_) (fun (h : true = false) => Bool.noConfusion h) | refine And.intro (fun (h : false = true) => Bool.noConfusion h) (fun (_ : false = false) => ?_)
    refine And.intro (And.intro (show ShP 1000000 (nB [P]) from sh_nB (fun p hp => by simp only [List.mem_singleton] at hp; rw [hp]; exact sP) (by decide)) (And.intro (isP_B _) (show (nB [P]).length ≤ 1000 by rw [nB_len]; exact Nat.le_of_ble_eq_true rfl))) ?_
    repeat first | refine And.intro rfl ?_ | refine And.intro True.intro ?_ | refine Or.inl (And.intro rfl ?_) | refine Or.inr (And.intro rfl ?_) | refine And.intro (fun (_ : true = true) => ?_) (fun (h : true = false) => Bool.noConfusion h) | refine And.intro (fun (h : false = true) => Bool.noConfusion h) (fun (_ : false = false) => ?_)
    refine Or.inl (And.intro (same_nB (L := [P]) (M := E1) (by rw [← eP, ← eC, ← eh, ← e1]; decide +kernel)) ?_)
    repeat first | refine And.intro rfl ?_ | refine And.intro True.intro ?_ | refine Or.inl (And.intro rfl ?_) | refine Or.inr (And.intro rfl ?_) | refine And.intro (fun (_ : true = true) => ?_) (fun (h : true = false) => Bool.noConfusion h) | refine And.intro (fun (h : false = true) => Bool.noConfusion h) (fun (_ : false = false) => ?_)
    refine And.intro (pts_pre [4, 6] (by decide) (by decide)) ?_
    generalize e2 : pairs _ = E2
    repeat first | refine And.intro rfl ?_ | refine And.intro True.intro ?_ | refine Or.inl (And.intro rfl ?_) | refine Or.inr (And.intro rfl ?_) | refine And.intro (fun (_ : true = true) => ?_) (fun (h : true = false) => Bool.noConfusion h) | refine And.intro (fun (h : false = true) => Bool.noConfusion h) (fun (_ : false = false) => ?_)
    refine And.intro (And.intro (show ShP 1000000 (nB [Q]) from sh_nB (fun p hp => by simp only [List.mem_singleton] at hp; rw [hp]; exact sQ) (by decide)) (And.intro (isP_B _) (show (nB [Q]).length ≤ 1000 by rw [nB_len]; exact Nat.le_of_ble_eq_true rfl))) ?_
    repeat first | refine And.intro rfl ?_ | refine And.intro True.intro ?_ | refine Or.inl (And.intro rfl ?_) | refine Or.inr (And.intro rfl ?_) | refine And.intro (fun (_ : true = true) => ?_) (fun (h : true = false) => Bool.noConfusion h) | refine And.intro (fun (h : false = true) => Bool.noConfusion h) (fun (_ : false = false) => ?_)
    refine Or.inl (And.intro (same_nB (L := [Q]) (M := E2) (by rw [← eQ, ← eD, ← eh, ← e2]; decide +kernel)) ?_)
    repeat first | refine And.intro rfl ?_ | refine And.intro True.intro ?_ | refine Or.inl (And.intro rfl ?_) | refine Or.inr (And.intro rfl ?_) | refine And.intro (fun (_ : true = true) => ?_) (fun (h : true = false) => Bool.noConfusion h) | refine And.intro (fun (h : false = true) => Bool.noConfusion h) (fun (_ : false = false) => ?_)
    refine And.intro (pts_pre [0, 0, 0, 2, 1, 3] (by decide) (by decide)) ?_
    generalize e3 : pairs _ = E3
    repeat first | refine And.intro rfl ?_ | refine And.intro True.intro ?_ | refine Or.inl (And.intro rfl ?_) | refine Or.inr (And.intro rfl ?_) | refine And.intro (fun (_ : true = true) => ?_) (fun (h : true = false) => Bool.noConfusion h) | refine And.intro (fun (h : false = true) => Bool.noConfusion h) (fun (_ : false = false) => ?_)
    refine And.intro (And.intro (show ShP 1000000 (nB A) from sh_nB sA (by decide)) (And.intro (isP_B _) (show (nB A).length ≤ 1000 by rw [nB_len]; rw [← eA, ← eC, ← eh]; decide +kernel))) ?_
    repeat first | refine And.intro rfl ?_ | refine And.intro True.intro ?_ | refine Or.inl (And.intro rfl ?_) | refine Or.inr (And.intro rfl ?_) | refine And.intro (fun (_ : true = true) => ?_) (fun (h : true = false) => Bool.noConfusion h) | refine And.intro (fun (h : false = true) => Bool.noConfusion h) (fun (_ : false = false) => ?_)
    refine Or.inl (And.intro (same_nB (L := A) (M := E3) (by rw [← eA, ← eC, ← eh, ← e3]; decide +kernel)) ?_)
    repeat first | refine And.intro rfl ?_ | refine And.intro True.intro ?_ | refine Or.inl (And.intro rfl ?_) | refine Or.inr (And.intro rfl ?_) | refine And.intro (fun (_ : true = true) => ?_) (fun (h : true = false) => Bool.noConfusion h) | refine And.intro (fun (h : false = true) => Bool.noConfusion h) (fun (_ : false = false) => ?_)
    refine And.intro (pts_pre [1, 3, 2, 4, 4, 4] (by decide) (by decide)) ?_
    generalize e4 : pairs _ = E4
    repeat first | refine And.intro rfl ?_ | refine And.intro True.intro ?_ | refine Or.inl (And.intro rfl ?_) | refine Or.inr (And.intro rfl ?_) | refine And.intro (fun (_ : true = true) => ?_) (fun (h : true = false) => Bool.noConfusion h) | refine And.intro (fun (h : false = true) => Bool.noConfusion h) (fun (_ : false = false) => ?_)
    refine And.intro (And.intro (show ShP 1000000 (nB B') from sh_nB sB (by decide)) (And.intro (isP_B _) (show (nB B').length ≤ 1000 by rw [nB_len]; rw [← eB, ← eC, ← eh]; decide +kernel))) ?_
    repeat first | refine And.intro rfl ?_ | refine And.intro True.intro ?_ | refine Or.inl (And.intro rfl ?_) | refine Or.inr (And.intro rfl ?_) | refine And.intro (fun (_ : true = true) => ?_) (fun (h : true = false) => Bool.noConfusion h) | refine And.intro (fun (h : false = true) => Bool.noConfusion h) (fun (_ : false = false) => ?_)
    refine Or.inl (And.intro (same_nB (L := B') (M := E4) (by rw [← eB, ← eC, ← eh, ← e4]; decide +kernel)) ?_)
    repeat first | refine And.intro rfl ?_ | refine And.intro True.intro ?_ | refine Or.inl (And.intro rfl ?_) | refine Or.inr (And.intro rfl ?_) | refine And.intro (fun (_ : true = true) => ?_) (fun (h : true = false) => Bool.noConfusion h) | refine And.intro (fun (h : false = true) => Bool.noConfusion h) (fun (_ : false = false) => ?_)
    refine And.intro (pts_pre [0, 0, 1, 3, 4, 4] (by decide) (by decide)) ?_
    generalize e5 : pairs _ = E5
    repeat first | refine And.intro rfl ?_ | refine And.intro True.intro ?_ | refine Or.inl (And.intro rfl ?_) | refine Or.inr (And.intro rfl ?_) | refine And.intro (fun (_ : true = true) => ?_) (fun (h : true = false) => Bool.noConfusion h) | refine And.intro (fun (h : false = true) => Bool.noConfusion h) (fun (_ : false = false) => ?_)
    refine And.intro (And.intro (show ShP 1000000 (nB F) from sh_nB sF (by decide)) (And.intro (isP_B _) (show (nB F).length ≤ 1000 by rw [nB_len]; rw [← eF, ← eC]; decide +kernel))) ?_
    repeat first | refine And.intro rfl ?_ | refine And.intro True.intro ?_ | refine Or.inl (And.intro rfl ?_) | refine Or.inr (And.intro rfl ?_) | refine And.intro (fun (_ : true = true) => ?_) (fun (h : true = false) => Bool.noConfusion h) | refine And.intro (fun (h : false = true) => Bool.noConfusion h) (fun (_ : false = false) => ?_)
    refine Or.inl (And.intro (same_nB (L := F) (M := E5) (by rw [← eF, ← eC, ← e5]; decide +kernel)) ?_)
    repeat first | refine And.intro rfl ?_ | refine And.intro True.intro ?_ | refine Or.inl (And.intro rfl ?_) | refine Or.inr (And.intro rfl ?_) | refine And.intro (fun (_ : true = true) => ?_) (fun (h : true = false) => Bool.noConfusion h) | refine And.intro (fun (h : false = true) => Bool.noConfusion h) (fun (_ : false = false) => ?_)
    refine And.intro (pts_pre [0, 0, 4, 4] (by decide) (by decide)) ?_
    generalize e6 : pairs _ = E6
    repeat first | refine And.intro rfl ?_ | refine And.intro True.intro ?_ | refine Or.inl (And.intro rfl ?_) | refine Or.inr (And.intro rfl ?_) | refine And.intro (fun (_ : true = true) => ?_) (fun (h : true = false) => Bool.noConfusion h) | refine And.intro (fun (h : false = true) => Bool.noConfusion h) (fun (_ : false = false) => ?_)
    refine And.intro (And.intro (show ShP 1000000 (nB [lo, hi]) from sh_nB sL (by decide)) (And.intro (isP_B _) (show (nB [lo, hi]).length ≤ 1000 by rw [nB_len]; exact Nat.le_of_ble_eq_true rfl))) ?_
    repeat first | refine And.intro rfl ?_ | refine And.intro True.intro ?_ | refine Or.inl (And.intro rfl ?_) | refine Or.inr (And.intro rfl ?_) | refine And.intro (fun (_ : true = true) => ?_) (fun (h : true = false) => Bool.noConfusion h) | refine And.intro (fun (h : false = true) => Bool.noConfusion h) (fun (_ : false = false) => ?_)
    refine Or.inl (And.intro (same_nB (L := [lo, hi]) (M := E6) (by rw [← eLo, ← eHi, ← eC, ← e6]; decide +kernel)) ?_)
    repeat first | refine And.intro rfl ?_ | refine And.intro True.intro ?_ | refine Or.inl (And.intro rfl ?_) | refine Or.inr (And.intro rfl ?_) | refine And.intro (fun (_ : true = true) => ?_) (fun (h : true = false) => Bool.noConfusion h) | refine And.intro (fun (h : false = true) => Bool.noConfusion h) (fun (_ : false = false) => ?_)
    refine And.intro (And.intro (sh_nB sC (by decide)) (show (nB C).length ≤ 1000 by rw [nB_len, hC]; decide)) ?_
    rw [vC]
    repeat first | refine And.intro rfl ?_ | refine And.intro True.intro ?_ | refine Or.inl (And.intro rfl ?_) | refine Or.inr (And.intro rfl ?_) | refine And.intro (fun (_ : true = true) => ?_) (fun (h : true = false) => Bool.noConfusion h) | refine And.intro (fun (h : false = true) => Bool.noConfusion h) (fun (_ : false = false) => ?_)
    refine And.intro (pts_pre [4, 4, 0, 4, 0, 0] (by decide) (by decide)) ?_
    generalize e7 : pairs _ = E7
    repeat first | refine And.intro rfl ?_ | refine And.intro True.intro ?_ | refine Or.inl (And.intro rfl ?_) | refine Or.inr (And.intro rfl ?_) | refine And.intro (fun (_ : true = true) => ?_) (fun (h : true = false) => Bool.noConfusion h) | refine And.intro (fun (h : false = true) => Bool.noConfusion h) (fun (_ : false = false) => ?_)
    refine And.intro (And.intro (show ShP 1000000 (nB C.reverse) from sh_nB (fun p hp => sC p (List.mem_reverse.1 hp)) (by decide)) (And.intro (isP_B _) (show (nB C.reverse).length ≤ 1000 by rw [nB_len]; rw [← eC]; decide +kernel))) ?_
    exact resB (same_nB (L := C.reverse) (M := E7) (by rw [← eC, ← e7]; decide +kernel))
  · cases h

end Go.Gm

/-
  The statements about curves, part E: CurveEnds. Plain theorems; no condition.
-/
namespace Go.Gm
open Go.Proofs

def TE1 : Table := (50, sTrue0) :: TE0
theorem TE1_ok : TabOk TE1 := TabOk.cons ok_example09 TE0_ok

/-- What the guard of a curve law gives. -/
theorem light_c {c : List (List BV)} {m n : Nat} (hc : IsP c) (h : (decide ((c.length : Int) ≤ ((m : Nat) : Int)) && (ptsOf c).all (lightPR ((n : Nat) : Int))) = true) : c.length ≤ m ∧ ∃ ps : List PR, c = ps.map ptB ∧ ps.length = c.length ∧ ∀ p, p ∈ ps → p.Le n := by
  simp only [Bool.and_eq_true, decide_eq_true_eq, List.all_eq_true] at h
  exact ⟨by omega, ptsOf c, hc, List.length_map _, fun p hp => lightPR_le (h.2 p hp)⟩
theorem sp_vals {n : Nat} {ps : List PR} (hlm : ∀ p, p ∈ ps → p.Lm) (hle : ∀ p, p ∈ ps → p.Le n) : ∀ q, q ∈ ps.map PR.v → Sp (n + 1) q := by
  intro q hq
  obtain ⟨p, hp, rfl⟩ := List.mem_map.1 hq
  exact PR.sp (hlm p hp) (hle p hp)
theorem sh_ps {n m : Nat} {ps : List PR} (hle : ∀ p, p ∈ ps → p.Le n) (hm : n ≤ m) : ShP m (ps.map ptB) := ⟨isP_B _, by rw [ptsOf_B]; exact fun p hp => (hle p hp).mono hm⟩
theorem okC_ps {ps : List PR} (h2 : 2 ≤ ps.length) (h4 : ps.length ≤ 4) : okC (ps.map ptB) = true := by unfold okC; rw [List.length_map]; exact decide_eq_true ⟨h2, h4⟩

def sCurveEnds : List RV → Option (Prop × Res)
  | [.one (.sl 6 c), .agg [.b (.val (.bool s)), .b (.nat l), .b (.nat t)]] => some (IsP c, .r (.val (.bool true)))
  | _ => none

attribute [local irreducible] sameL bez mkRat rq

/-- A point in normal form, and one that stands for the same. -/
theorem same_pt {P : Rat × Rat} {p : PR} (h : P = p.v) : decide (rq (decide (P.1.num < 0)) (dg P.1.num.natAbs) (dg P.1.den) = rq p.s p.l p.t ∧ rq (decide (P.2.num < 0)) (dg P.2.num.natAbs) (dg P.2.den) = rq p.z p.k p.u) = true := by
  refine decide_eq_true ⟨?_, ?_⟩
  · rw [rq_cq, h]; rfl
  · rw [rq_cq, h]; rfl


set_option maxHeartbeats 2000000 in
theorem ok_CurveEnds : Ok1 9 sCurveEnds := by
  refine ok_of TE1_ok Try.func9 rfl (by kernel_rfl) ?_
  intro xs pre res h hp hlim
  unfold sCurveEnds at h
  split at h
  · rename_i c s l t
    cases h
    have hl : Lim l := hlim.2.1.2.1
    have ht : Lim t := hlim.2.1.2.2.1
    refine And.intro (Nat.le_of_ble_eq_true rfl) ?_
    repeat first | refine And.intro rfl ?_ | refine Or.inl (And.intro rfl ?_) | refine Or.inr (And.intro rfl ?_) | refine And.intro (fun (_ : true = true) => ?_) (fun (h : true = false) => Bool.noConfusion h) | refine And.intro (fun (h : false = true) => Bool.noConfusion h) (fun (_ : false = false) => ?_)
    refine And.intro (show IsP c ∧ (4 : Int) ≤ 1000 from ⟨hp, by decide⟩) ?_
    repeat first | refine And.intro rfl ?_ | refine And.intro True.intro ?_ | refine Or.inl (And.intro rfl ?_) | refine Or.inr (And.intro rfl ?_) | refine And.intro (fun (_ : true = true) => ?_) (fun (h : true = false) => Bool.noConfusion h) | refine And.intro (fun (h : false = true) => Bool.noConfusion h) (fun (_ : false = false) => ?_)
    cases hL : (decide ((c.length : Int) ≤ 4) && (ptsOf c).all (lightPR 4)) with
    | false =>
      refine Or.inr (And.intro rfl ?_)
      repeat first | refine And.intro rfl ?_ | refine And.intro True.intro ?_ | refine Or.inl (And.intro rfl ?_) | refine Or.inr (And.intro rfl ?_) | refine And.intro (fun (_ : true = true) => ?_) (fun (h : true = false) => Bool.noConfusion h) | refine And.intro (fun (h : false = true) => Bool.noConfusion h) (fun (_ : false = false) => ?_)
      rfl
    | true =>
      refine Or.inl (And.intro rfl ?_)
      obtain ⟨h4, ps, rfl, hpl, hps⟩ := light_c (m := 4) (n := 4) hp hL
      rw [← hpl] at h4
      have hlm := lm_of hlim.1
      repeat first | refine And.intro rfl ?_ | refine And.intro True.intro ?_ | refine Or.inl (And.intro rfl ?_) | refine Or.inr (And.intro rfl ?_) | refine And.intro (fun (_ : true = true) => ?_) (fun (h : true = false) => Bool.noConfusion h) | refine And.intro (fun (h : false = true) => Bool.noConfusion h) (fun (_ : false = false) => ?_)
      by_cases hT : (l.length : Int) ≤ 3 ∧ (t.length : Int) ≤ 3
      case neg =>
        refine Or.inr (And.intro (show (!decide ((l.length : Int) ≤ 3 ∧ (t.length : Int) ≤ 3)) = true by simp [hT]) ?_)
        repeat first | refine And.intro rfl ?_ | refine And.intro True.intro ?_ | refine Or.inl (And.intro rfl ?_) | refine Or.inr (And.intro rfl ?_) | refine And.intro (fun (_ : true = true) => ?_) (fun (h : true = false) => Bool.noConfusion h) | refine And.intro (fun (h : false = true) => Bool.noConfusion h) (fun (_ : false = false) => ?_)
        rfl
      refine Or.inl (And.intro (show (!decide ((l.length : Int) ≤ 3 ∧ (t.length : Int) ≤ 3)) = false by simp [hT]) ?_)
      repeat first | refine And.intro rfl ?_ | refine And.intro True.intro ?_ | refine Or.inl (And.intro rfl ?_) | refine Or.inr (And.intro rfl ?_) | refine And.intro (fun (_ : true = true) => ?_) (fun (h : true = false) => Bool.noConfusion h) | refine And.intro (fun (h : false = true) => Bool.noConfusion h) (fun (_ : false = false) => ?_)
      refine And.intro (fun hc => ?_) (fun hc => ?_)
      · repeat first | refine And.intro rfl ?_ | refine And.intro True.intro ?_ | refine Or.inl (And.intro rfl ?_) | refine Or.inr (And.intro rfl ?_) | refine And.intro (fun (_ : true = true) => ?_) (fun (h : true = false) => Bool.noConfusion h) | refine And.intro (fun (h : false = true) => Bool.noConfusion h) (fun (_ : false = false) => ?_)
        rfl
      have h2 : 2 ≤ ps.length := by
        have hc : ¬ (((ps.map ptB).length : Nat) : Int) < 2 := of_decide_eq_false hc
        rw [List.length_map] at hc
        omega
      have oc := okC_ps h2 h4
      have vc := valsOf_B ps
      have svs := sp_vals hlm hps
      have hz := Sz.rq (s := s) (n := 3) hl ht (by omega) (by omega)
      obtain ⟨q, hq⟩ : ∃ q, q = rq s l t := ⟨_, rfl⟩
      rw [← hq] at hz
      obtain ⟨vs, hvs⟩ : ∃ vs, vs = ps.map PR.v := ⟨_, rfl⟩
      have hvl : vs.length = ps.length := by rw [hvs, List.length_map]
      rw [← hvs] at vc svs
      have v2 : 2 ≤ vs.length := by omega
      have v4 : vs.length ≤ 4 := by omega
      have r2 : 2 ≤ vs.reverse.length := by rw [List.length_reverse]; omega
      have r4 : vs.reverse.length ≤ 4 := by rw [List.length_reverse]; omega
      have srs : ∀ p, p ∈ vs.reverse → Sp 5 p := fun p hp => svs p (List.mem_reverse.1 hp)
      have or_ : okC (nB vs.reverse) = true := by rw [ok_nB]; exact decide_eq_true ⟨r2, r4⟩
      have vr := vals_nB vs.reverse
      repeat first | refine And.intro rfl ?_ | refine And.intro True.intro ?_ | refine Or.inl (And.intro rfl ?_) | refine Or.inr (And.intro rfl ?_) | refine And.intro (fun (_ : true = true) => ?_) (fun (h : true = false) => Bool.noConfusion h) | refine And.intro (fun (h : false = true) => Bool.noConfusion h) (fun (_ : false = false) => ?_)
      refine And.intro (show _ ∧ _ ∧ _ ∧ _ ∧ _ ∧ DivFit _ from ⟨by decide, by decide, by decide, by decide, by decide, trivial⟩) ?_
      generalize ezr : mkRat (sg _ _) _ = zr
      have vzr : zr = 0 := by rw [← ezr]; decide +kernel
      have zzr : Sz 1 zr := by rw [vzr]; exact szB (by decide +kernel)
      have qzr := rq_cq zr
      repeat first | refine And.intro rfl ?_ | refine And.intro True.intro ?_ | refine Or.inl (And.intro rfl ?_) | refine Or.inr (And.intro rfl ?_) | refine And.intro (fun (_ : true = true) => ?_) (fun (h : true = false) => Bool.noConfusion h) | refine And.intro (fun (h : false = true) => Bool.noConfusion h) (fun (_ : false = false) => ?_)
      refine And.intro (show _ ∧ _ ∧ _ ∧ _ ∧ _ ∧ DivFit _ from ⟨by decide, by decide, by decide, by decide, by decide, trivial⟩) ?_
      generalize eun : mkRat (sg _ _) _ = un
      have vun : un = 1 := by rw [← eun]; decide +kernel
      have zun : Sz 1 un := by rw [vun]; exact szB (by decide +kernel)
      have qun := rq_cq un
      repeat first | refine And.intro rfl ?_ | refine And.intro True.intro ?_ | refine Or.inl (And.intro rfl ?_) | refine Or.inr (And.intro rfl ?_) | refine And.intro (fun (_ : true = true) => ?_) (fun (h : true = false) => Bool.noConfusion h) | refine And.intro (fun (h : false = true) => Bool.noConfusion h) (fun (_ : false = false) => ?_)
      refine And.intro (And.intro (sh_ps hps (by decide)) (show (ps.map ptB).length ≤ 1000 by rw [List.length_map]; omega)) ?_
      rw [vc]
      repeat first | refine And.intro rfl ?_ | refine And.intro True.intro ?_ | refine Or.inl (And.intro rfl ?_) | refine Or.inr (And.intro rfl ?_) | refine And.intro (fun (_ : true = true) => ?_) (fun (h : true = false) => Bool.noConfusion h) | refine And.intro (fun (h : false = true) => Bool.noConfusion h) (fun (_ : false = false) => ?_)
      refine And.intro (And.intro (sh_ps hps (by decide)) (And.intro (zzr.lenN (by decide)) (zzr.lenD (by decide)))) ?_
      rw [oc, vc, qzr]
      generalize eP : bez vs _ = P
      have sP : Sp 187 P := by rw [← eP]; exact (bez_sp3 zzr v2 v4 svs).mono (by decide +kernel)
      repeat first | refine And.intro rfl ?_ | refine And.intro True.intro ?_ | refine Or.inl (And.intro rfl ?_) | refine Or.inr (And.intro rfl ?_) | refine And.intro (fun (_ : true = true) => ?_) (fun (h : true = false) => Bool.noConfusion h) | refine And.intro (fun (h : false = true) => Bool.noConfusion h) (fun (_ : false = false) => ?_)
      refine And.intro (And.intro (sh_ps hps (by decide)) (And.intro (zun.lenN (by decide)) (zun.lenD (by decide)))) ?_
      rw [oc, vc, qun]
      generalize eQ : bez vs _ = Q
      have sQ : Sp 187 Q := by rw [← eQ]; exact (bez_sp3 zun v2 v4 svs).mono (by decide +kernel)
      repeat first | refine And.intro rfl ?_ | refine And.intro True.intro ?_ | refine Or.inl (And.intro rfl ?_) | refine Or.inr (And.intro rfl ?_) | refine And.intro (fun (_ : true = true) => ?_) (fun (h : true = false) => Bool.noConfusion h) | refine And.intro (fun (h : false = true) => Bool.noConfusion h) (fun (_ : false = false) => ?_)
      refine And.intro (And.intro (sh_nB srs (by decide)) (And.intro (show l.length ≤ 300 by omega) (show t.length ≤ 300 by omega))) ?_
      rw [or_, vr, ← hq]
      generalize eX : bez vs.reverse q = X
      have sX : Sp 226 X := by rw [← eX]; exact (bez_sp3 hz r2 r4 srs).mono (by decide +kernel)
      repeat first | refine And.intro rfl ?_ | refine And.intro True.intro ?_ | refine Or.inl (And.intro rfl ?_) | refine Or.inr (And.intro rfl ?_) | refine And.intro (fun (_ : true = true) => ?_) (fun (h : true = false) => Bool.noConfusion h) | refine And.intro (fun (h : false = true) => Bool.noConfusion h) (fun (_ : false = false) => ?_)
      refine And.intro (And.intro (zun.lenN (by decide)) (And.intro (zun.lenD (by decide)) (And.intro (show l.length ≤ 39999 by omega) (show t.length ≤ 39999 by omega)))) ?_
      rw [qun, ← hq]
      generalize ew : un - q = w
      have zw : Sz 6 w := by rw [← ew]; exact (zun.sub hz).mono (by decide)
      have qw := rq_cq w
      repeat first | refine And.intro rfl ?_ | refine And.intro True.intro ?_ | refine Or.inl (And.intro rfl ?_) | refine Or.inr (And.intro rfl ?_) | refine And.intro (fun (_ : true = true) => ?_) (fun (h : true = false) => Bool.noConfusion h) | refine And.intro (fun (h : false = true) => Bool.noConfusion h) (fun (_ : false = false) => ?_)
      refine And.intro (And.intro (sh_ps hps (by decide)) (And.intro (zw.lenN (by decide)) (zw.lenD (by decide)))) ?_
      rw [oc, vc, qw]
      generalize eY : bez vs _ = Y
      have sY : Sp 252 Y := by rw [← eY]; exact (bez_sp3 zw v2 v4 svs).mono (by decide +kernel)
      repeat first | refine And.intro rfl ?_ | refine And.intro True.intro ?_ | refine Or.inl (And.intro rfl ?_) | refine Or.inr (And.intro rfl ?_) | refine And.intro (fun (_ : true = true) => ?_) (fun (h : true = false) => Bool.noConfusion h) | refine And.intro (fun (h : false = true) => Bool.noConfusion h) (fun (_ : false = false) => ?_)
      refine And.intro (fun hc => ?_) (fun hc => ?_)
      · exfalso
        have hc : ((((nB vs.reverse).length : Nat) : Int) != (((ps.map ptB).length : Nat) : Int)) = true := hc
        rw [nB_len, List.length_reverse, List.length_map, hvl] at hc
        simp at hc
      have g0 : (ps.map ptB).getD (0 : Int).toNat [] = ptB (ps.getD 0 PR.zero) := getD_ptB ps 0 (by omega)
      have hw : IntKind.i64.wrap ((((ps.map ptB).length : Nat) : Int) - 1) = ((ps.length - 1 : Nat) : Int) := by rw [List.length_map, wI (by omega) (by omega)]; omega
      have gl : (ps.map ptB).getD (ps.length - 1) [] = ptB (ps.getD (ps.length - 1) PR.zero) := getD_ptB ps _ (by omega)
      have hP : P = (ps.getD 0 PR.zero).v := by rw [← eP, vzr, bez_zero v2 v4, hvs, ← hd_of (by omega)]
      have hQ : Q = (ps.getD (ps.length - 1) PR.zero).v := by rw [← eQ, vun, bez_one v2 v4, hvs, ← ls_of (by omega)]
      have hXY : X = Y := by rw [← eX, ← eY, bez_rev v2 v4, ← ew, vun]
      have k0 := (hps _ (getD_mem' ps 0 PR.zero (by omega))).mono (show 4 ≤ 40000 by decide)
      have kl := (hps _ (getD_mem' ps (ps.length - 1) PR.zero (by omega))).mono (show 4 ≤ 40000 by decide)
      generalize ps.getD 0 PR.zero = p0 at *
      generalize ps.getD (ps.length - 1) PR.zero = pl at *
      repeat first | refine And.intro rfl ?_ | refine And.intro True.intro ?_ | refine Or.inl (And.intro rfl ?_) | refine Or.inr (And.intro rfl ?_) | refine And.intro (fun (_ : true = true) => ?_) (fun (h : true = false) => Bool.noConfusion h) | refine And.intro (fun (h : false = true) => Bool.noConfusion h) (fun (_ : false = false) => ?_)
      refine And.intro (show 0 ≤ (0 : Int) ∧ (0 : Int) < (((ps.map ptB).length : Nat) : Int) by rw [List.length_map]; omega) ?_
      rw [g0]
      repeat first | refine And.intro rfl ?_ | refine And.intro True.intro ?_ | refine Or.inl (And.intro rfl ?_) | refine Or.inr (And.intro rfl ?_) | refine And.intro (fun (_ : true = true) => ?_) (fun (h : true = false) => Bool.noConfusion h) | refine And.intro (fun (h : false = true) => Bool.noConfusion h) (fun (_ : false = false) => ?_)
      refine And.intro (And.intro (And.intro (sP.1.lenN (by decide)) (And.intro (sP.1.lenD (by decide)) (And.intro k0.1 k0.2.1))) (And.intro (sP.2.lenN (by decide)) (And.intro (sP.2.lenD (by decide)) (And.intro k0.2.2.1 k0.2.2.2)))) ?_
      repeat first | refine And.intro rfl ?_ | refine And.intro True.intro ?_ | refine Or.inl (And.intro rfl ?_) | refine Or.inr (And.intro rfl ?_) | refine And.intro (fun (_ : true = true) => ?_) (fun (h : true = false) => Bool.noConfusion h) | refine And.intro (fun (h : false = true) => Bool.noConfusion h) (fun (_ : false = false) => ?_)
      refine Or.inl (And.intro (same_pt hP) ?_)
      repeat first | refine And.intro rfl ?_ | refine And.intro True.intro ?_ | refine Or.inl (And.intro rfl ?_) | refine Or.inr (And.intro rfl ?_) | refine And.intro (fun (_ : true = true) => ?_) (fun (h : true = false) => Bool.noConfusion h) | refine And.intro (fun (h : false = true) => Bool.noConfusion h) (fun (_ : false = false) => ?_)
      refine And.intro (show 0 ≤ IntKind.i64.wrap _ ∧ IntKind.i64.wrap _ < (((ps.map ptB).length : Nat) : Int) by rw [hw, List.length_map]; omega) ?_
      rw [hw, Int.toNat_natCast, gl]
      repeat first | refine And.intro rfl ?_ | refine And.intro True.intro ?_ | refine Or.inl (And.intro rfl ?_) | refine Or.inr (And.intro rfl ?_) | refine And.intro (fun (_ : true = true) => ?_) (fun (h : true = false) => Bool.noConfusion h) | refine And.intro (fun (h : false = true) => Bool.noConfusion h) (fun (_ : false = false) => ?_)
      refine And.intro (And.intro (And.intro (sQ.1.lenN (by decide)) (And.intro (sQ.1.lenD (by decide)) (And.intro kl.1 kl.2.1))) (And.intro (sQ.2.lenN (by decide)) (And.intro (sQ.2.lenD (by decide)) (And.intro kl.2.2.1 kl.2.2.2)))) ?_
      repeat first | refine And.intro rfl ?_ | refine And.intro True.intro ?_ | refine Or.inl (And.intro rfl ?_) | refine Or.inr (And.intro rfl ?_) | refine And.intro (fun (_ : true = true) => ?_) (fun (h : true = false) => Bool.noConfusion h) | refine And.intro (fun (h : false = true) => Bool.noConfusion h) (fun (_ : false = false) => ?_)
      refine Or.inl (And.intro (same_pt hQ) ?_)
      repeat first | refine And.intro rfl ?_ | refine And.intro True.intro ?_ | refine Or.inl (And.intro rfl ?_) | refine Or.inr (And.intro rfl ?_) | refine And.intro (fun (_ : true = true) => ?_) (fun (h : true = false) => Bool.noConfusion h) | refine And.intro (fun (h : false = true) => Bool.noConfusion h) (fun (_ : false = false) => ?_)
      refine And.intro (And.intro (show ShP 1000000 (nB [X]) from sh_nB (fun p hp => by simp only [List.mem_singleton] at hp; rw [hp]; exact sX) (by decide)) (And.intro (isP_B (nrm [Y])) (show (nB [X]).length ≤ 1000 by rw [nB_len]; exact Nat.le_of_ble_eq_true rfl))) ?_
      repeat first | refine And.intro rfl ?_ | refine And.intro True.intro ?_ | refine Or.inl (And.intro rfl ?_) | refine Or.inr (And.intro rfl ?_) | refine And.intro (fun (_ : true = true) => ?_) (fun (h : true = false) => Bool.noConfusion h) | refine And.intro (fun (h : false = true) => Bool.noConfusion h) (fun (_ : false = false) => ?_)
      refine Or.inl (And.intro (same_nB (L := [X]) (M := [Y]) (by rw [hXY])) ?_)
      repeat first | refine And.intro rfl ?_ | refine And.intro True.intro ?_ | refine Or.inl (And.intro rfl ?_) | refine Or.inr (And.intro rfl ?_) | refine And.intro (fun (_ : true = true) => ?_) (fun (h : true = false) => Bool.noConfusion h) | refine And.intro (fun (h : false = true) => Bool.noConfusion h) (fun (_ : false = false) => ?_)
      have hrr : ∀ L : List (Rat × Rat), L.length = vs.length → (∀ p, p ∈ L → Sp 5 p) → ShP 60000 (nB L) ∧ (nB L).length ≤ 1000 := fun L h1 h2 => ⟨sh_nB h2 (by decide), by rw [nB_len]; omega⟩
      refine And.intro (hrr vs.reverse (by simp) srs) ?_
      rw [vr, List.reverse_reverse]
      repeat first | refine And.intro rfl ?_ | refine And.intro True.intro ?_ | refine Or.inl (And.intro rfl ?_) | refine Or.inr (And.intro rfl ?_) | refine And.intro (fun (_ : true = true) => ?_) (fun (h : true = false) => Bool.noConfusion h) | refine And.intro (fun (h : false = true) => Bool.noConfusion h) (fun (_ : false = false) => ?_)
      refine And.intro (hrr vs.reverse (by simp) srs) ?_
      rw [vr, List.reverse_reverse]
      repeat first | refine And.intro rfl ?_ | refine And.intro True.intro ?_ | refine Or.inl (And.intro rfl ?_) | refine Or.inr (And.intro rfl ?_) | refine And.intro (fun (_ : true = true) => ?_) (fun (h : true = false) => Bool.noConfusion h) | refine And.intro (fun (h : false = true) => Bool.noConfusion h) (fun (_ : false = false) => ?_)
      refine And.intro (hrr vs rfl svs) ?_
      rw [vals_nB]
      repeat first | refine And.intro rfl ?_ | refine And.intro True.intro ?_ | refine Or.inl (And.intro rfl ?_) | refine Or.inr (And.intro rfl ?_) | refine And.intro (fun (_ : true = true) => ?_) (fun (h : true = false) => Bool.noConfusion h) | refine And.intro (fun (h : false = true) => Bool.noConfusion h) (fun (_ : false = false) => ?_)
      refine And.intro (hrr vs.reverse (by simp) srs) ?_
      rw [vr, List.reverse_reverse]
      repeat first | refine And.intro rfl ?_ | refine And.intro True.intro ?_ | refine Or.inl (And.intro rfl ?_) | refine Or.inr (And.intro rfl ?_) | refine And.intro (fun (_ : true = true) => ?_) (fun (h : true = false) => Bool.noConfusion h) | refine And.intro (fun (h : false = true) => Bool.noConfusion h) (fun (_ : false = false) => ?_)
      refine And.intro (And.intro (sh_nB svs (by decide)) (And.intro (isP_B _) (show (nB vs).length ≤ 1000 by rw [nB_len]; omega))) ?_
      repeat first | refine And.intro rfl ?_ | refine And.intro True.intro ?_ | refine Or.inl (And.intro rfl ?_) | refine Or.inr (And.intro rfl ?_) | refine And.intro (fun (_ : true = true) => ?_) (fun (h : true = false) => Bool.noConfusion h) | refine And.intro (fun (h : false = true) => Bool.noConfusion h) (fun (_ : false = false) => ?_)
      refine Or.inl (And.intro (same_nB rfl) ?_)
      repeat first | refine And.intro rfl ?_ | refine And.intro True.intro ?_ | refine Or.inl (And.intro rfl ?_) | refine Or.inr (And.intro rfl ?_) | refine And.intro (fun (_ : true = true) => ?_) (fun (h : true = false) => Bool.noConfusion h) | refine And.intro (fun (h : false = true) => Bool.noConfusion h) (fun (_ : false = false) => ?_)
      refine And.intro (show 0 ≤ (0 : Int) ∧ (0 : Int) < (((nB vs.reverse).length : Nat) : Int) by rw [nB_len]; omega) ?_
      have hr0 : vs.reverse.getD 0 (0, 0) = pl.v := by
        rw [← hQ, ← eQ, vun, bez_one v2 v4]
        unfold lsQ
        rw [List.getLastD_eq_getLast?, List.getLast?_eq_head?_reverse]
        cases vs.reverse <;> rfl
      have gr0 : (nB vs.reverse).getD (0 : Int).toNat [] = ptB (prQ (vs.reverse.getD 0 (0, 0))) := by
        have h0 : 0 < vs.length := by omega
        simp [nB, nrm, List.getD_eq_getElem?_getD, h0]
      rw [gr0]
      have sr0 : Sp 5 (vs.reverse.getD 0 (0, 0)) := srs _ (getD_mem' _ _ _ (by omega))
      generalize vs.reverse.getD 0 (0, 0) = R0 at *
      repeat first | refine And.intro rfl ?_ | refine And.intro True.intro ?_ | refine Or.inl (And.intro rfl ?_) | refine Or.inr (And.intro rfl ?_) | refine And.intro (fun (_ : true = true) => ?_) (fun (h : true = false) => Bool.noConfusion h) | refine And.intro (fun (h : false = true) => Bool.noConfusion h) (fun (_ : false = false) => ?_)
      refine And.intro (show 0 ≤ IntKind.i64.wrap _ ∧ IntKind.i64.wrap _ < (((ps.map ptB).length : Nat) : Int) by rw [hw, List.length_map]; omega) ?_
      rw [hw, Int.toNat_natCast, gl]
      repeat first | refine And.intro rfl ?_ | refine And.intro True.intro ?_ | refine Or.inl (And.intro rfl ?_) | refine Or.inr (And.intro rfl ?_) | refine And.intro (fun (_ : true = true) => ?_) (fun (h : true = false) => Bool.noConfusion h) | refine And.intro (fun (h : false = true) => Bool.noConfusion h) (fun (_ : false = false) => ?_)
      refine And.intro (And.intro (And.intro (sr0.1.lenN (by decide)) (And.intro (sr0.1.lenD (by decide)) (And.intro kl.1 kl.2.1))) (And.intro (sr0.2.lenN (by decide)) (And.intro (sr0.2.lenD (by decide)) (And.intro kl.2.2.1 kl.2.2.2)))) ?_
      repeat first | refine And.intro rfl ?_ | refine And.intro True.intro ?_ | refine Or.inl (And.intro rfl ?_) | refine Or.inr (And.intro rfl ?_) | refine And.intro (fun (_ : true = true) => ?_) (fun (h : true = false) => Bool.noConfusion h) | refine And.intro (fun (h : false = true) => Bool.noConfusion h) (fun (_ : false = false) => ?_)
      refine Or.inl (And.intro (same_pt hr0) ?_)
      repeat first | refine And.intro rfl ?_ | refine And.intro True.intro ?_ | refine Or.inl (And.intro rfl ?_) | refine Or.inr (And.intro rfl ?_) | refine And.intro (fun (_ : true = true) => ?_) (fun (h : true = false) => Bool.noConfusion h) | refine And.intro (fun (h : false = true) => Bool.noConfusion h) (fun (_ : false = false) => ?_)
      rfl
  · cases h

end Go.Gm

/-
  Curves, plain, more: parts of a curve, moved and scaled curves, finer steps. No program in sight.
-/
namespace Go.Gm

theorem bez_left {l : List (Rat × Rat)} (h2 : 2 ≤ l.length) (h4 : l.length ≤ 4) (t u : Rat) : bez (leftQ l t) u = bez l (t * u) := by
  refine curve_cases (P := fun l => bez (leftQ l t) u = bez l (t * u)) h2 h4 (fun a b => ?_) (fun a b c => ?_) (fun a b c d => ?_)
  · show bez [a, onP a b t] u = _
    exact Prod.ext (by simp only [bez2, on_fst]; grind) (by simp only [bez2, on_snd]; grind)
  · show bez [a, onP a b t, onP (onP a b t) (onP b c t) t] u = _
    exact Prod.ext (by simp only [bez3, on_fst]; grind) (by simp only [bez3, on_snd]; grind)
  · show bez [a, onP a b t, onP (onP a b t) (onP b c t) t, onP (onP (onP a b t) (onP b c t) t) (onP (onP b c t) (onP c d t) t) t] u = _
    exact Prod.ext (by simp only [bez4, on_fst]; grind) (by simp only [bez4, on_snd]; grind)
theorem bez_right {l : List (Rat × Rat)} (h2 : 2 ≤ l.length) (h4 : l.length ≤ 4) (t u : Rat) : bez (rightQ l t) u = bez l (t + (1 - t) * u) := by
  refine curve_cases (P := fun l => bez (rightQ l t) u = bez l (t + (1 - t) * u)) h2 h4 (fun a b => ?_) (fun a b c => ?_) (fun a b c d => ?_)
  · show bez [onP a b t, b] u = _
    exact Prod.ext (by simp only [bez2, on_fst]; grind) (by simp only [bez2, on_snd]; grind)
  · show bez [onP (onP a b t) (onP b c t) t, onP b c t, c] u = _
    exact Prod.ext (by simp only [bez3, on_fst]; grind) (by simp only [bez3, on_snd]; grind)
  · show bez [onP (onP (onP a b t) (onP b c t) t) (onP (onP b c t) (onP c d t) t) t, onP (onP b c t) (onP c d t) t, onP c d t, d] u = _
    exact Prod.ext (by simp only [bez4, on_fst]; grind) (by simp only [bez4, on_snd]; grind)
theorem left_last {l : List (Rat × Rat)} (h2 : 2 ≤ l.length) (h4 : l.length ≤ 4) (t : Rat) : (leftQ l t).getD (l.length - 1) (0, 0) = bez l t :=
  curve_cases (P := fun l => (leftQ l t).getD (l.length - 1) (0, 0) = bez l t) h2 h4 (fun _ _ => rfl) (fun _ _ _ => rfl) (fun _ _ _ _ => rfl)
theorem right_head {l : List (Rat × Rat)} (h2 : 2 ≤ l.length) (h4 : l.length ≤ 4) (t : Rat) : (rightQ l t).getD 0 (0, 0) = bez l t :=
  curve_cases (P := fun l => (rightQ l t).getD 0 (0, 0) = bez l t) h2 h4 (fun _ _ => rfl) (fun _ _ _ => rfl) (fun _ _ _ _ => rfl)

def movP (d p : Rat × Rat) : Rat × Rat := (p.1 + d.1, p.2 + d.2)
def sclP (r : Rat) (p : Rat × Rat) : Rat × Rat := (p.1 * r, p.2 * r)
theorem mov_fst (d p : Rat × Rat) : (movP d p).1 = p.1 + d.1 := rfl
theorem mov_snd (d p : Rat × Rat) : (movP d p).2 = p.2 + d.2 := rfl
theorem scl_fst (r : Rat) (p : Rat × Rat) : (sclP r p).1 = p.1 * r := rfl
theorem scl_snd (r : Rat) (p : Rat × Rat) : (sclP r p).2 = p.2 * r := rfl
theorem bez_mov {l : List (Rat × Rat)} (h2 : 2 ≤ l.length) (h4 : l.length ≤ 4) (d : Rat × Rat) (t : Rat) : bez (l.map (movP d)) t = movP d (bez l t) := by
  refine curve_cases (P := fun l => bez (l.map (movP d)) t = movP d (bez l t)) h2 h4 (fun a b => ?_) (fun a b c => ?_) (fun a b c e => ?_)
  · show bez [movP d a, movP d b] t = _
    exact Prod.ext (by simp only [bez2, on_fst, mov_fst]; grind) (by simp only [bez2, on_snd, mov_snd]; grind)
  · show bez [movP d a, movP d b, movP d c] t = _
    exact Prod.ext (by simp only [bez3, on_fst, mov_fst]; grind) (by simp only [bez3, on_snd, mov_snd]; grind)
  · show bez [movP d a, movP d b, movP d c, movP d e] t = _
    exact Prod.ext (by simp only [bez4, on_fst, mov_fst]; grind) (by simp only [bez4, on_snd, mov_snd]; grind)
theorem bez_scl {l : List (Rat × Rat)} (h2 : 2 ≤ l.length) (h4 : l.length ≤ 4) (r t : Rat) : bez (l.map (sclP r)) t = sclP r (bez l t) := by
  refine curve_cases (P := fun l => bez (l.map (sclP r)) t = sclP r (bez l t)) h2 h4 (fun a b => ?_) (fun a b c => ?_) (fun a b c e => ?_)
  · show bez [sclP r a, sclP r b] t = _
    exact Prod.ext (by simp only [bez2, on_fst, scl_fst]; grind) (by simp only [bez2, on_snd, scl_snd]; grind)
  · show bez [sclP r a, sclP r b, sclP r c] t = _
    exact Prod.ext (by simp only [bez3, on_fst, scl_fst]; grind) (by simp only [bez3, on_snd, scl_snd]; grind)
  · show bez [sclP r a, sclP r b, sclP r c, sclP r e] t = _
    exact Prod.ext (by simp only [bez4, on_fst, scl_fst]; grind) (by simp only [bez4, on_snd, scl_snd]; grind)

theorem frac_twice {i n : Nat} (hn : 0 < n) : mkRat ((2 * i : Nat) : Int) (2 * n) = mkRat (i : Int) n := by
  rw [Rat.mkRat_eq_iff (by omega) (by omega)]
  push_cast
  rw [Int.mul_assoc, Int.mul_left_comm]
theorem flt_twice (l : List (Rat × Rat)) {i n : Nat} (hn : 0 < n) (hi : i < n + 1) : (fltQ l n).getD i (0, 0) = (fltQ l (2 * n)).getD (2 * i) (0, 0) := by
  rw [fltQ_at _ _ _ hi, fltQ_at _ _ _ (by omega), frac_twice hn]

theorem left_sp {m n : Nat} {t : Rat} (ht : Sz m t) {l : List (Rat × Rat)} (h2 : 2 ≤ l.length) (h4 : l.length ≤ 4) (h : ∀ p, p ∈ l → Sp n p) : ∀ p, p ∈ leftQ l t → Sp (gr m 3 n) p := by
  intro p hp
  have hl : ∀ L, L ∈ lvls l t → ∀ q, q ∈ L → Sp (gr m 3 n) q := by
    intro L hL q hq
    rcases List.mem_cons.1 hL with rfl | hL
    · exact (h q hq).mono (gr_le m 3 n)
    · exact (lvlQ_sp ht _ n l h L hL q hq).mono (gr_three m n (by omega))
  revert hl p hp
  refine curve_cases (P := fun l => ∀ p, p ∈ leftQ l t → (∀ L, L ∈ lvls l t → ∀ q, q ∈ L → Sp (gr m 3 n) q) → Sp (gr m 3 n) p) h2 h4 (fun a b => ?_) (fun a b c => ?_) (fun a b c d => ?_)
  all_goals
    intro p hp hl
    obtain ⟨L, hL, rfl⟩ := List.mem_map.1 hp
    refine hl L hL _ ?_
    simp only [lvls, lvlQ, List.length_cons, List.length_nil, divQ, List.mem_cons, List.not_mem_nil, or_false] at hL
    first
      | (rcases hL with rfl | rfl <;> exact List.mem_cons_self ..)
      | (rcases hL with rfl | rfl | rfl <;> exact List.mem_cons_self ..)
      | (rcases hL with rfl | rfl | rfl | rfl <;> exact List.mem_cons_self ..)
theorem right_sp {m n : Nat} {t : Rat} (ht : Sz m t) {l : List (Rat × Rat)} (h2 : 2 ≤ l.length) (h4 : l.length ≤ 4) (h : ∀ p, p ∈ l → Sp n p) : ∀ p, p ∈ rightQ l t → Sp (gr m 3 n) p := by
  intro p hp
  have hl : ∀ L, L ∈ lvls l t → ∀ q, q ∈ L → Sp (gr m 3 n) q := by
    intro L hL q hq
    rcases List.mem_cons.1 hL with rfl | hL
    · exact (h q hq).mono (gr_le m 3 n)
    · exact (lvlQ_sp ht _ n l h L hL q hq).mono (gr_three m n (by omega))
  revert hl p hp
  refine curve_cases (P := fun l => ∀ p, p ∈ rightQ l t → (∀ L, L ∈ lvls l t → ∀ q, q ∈ L → Sp (gr m 3 n) q) → Sp (gr m 3 n) p) h2 h4 (fun a b => ?_) (fun a b c => ?_) (fun a b c d => ?_)
  all_goals
    intro p hp hl
    obtain ⟨L, hL, rfl⟩ := List.mem_map.1 hp
    have hL := List.mem_reverse.1 hL
    refine hl L hL _ ?_
    simp only [lvls, lvlQ, List.length_cons, List.length_nil, divQ, List.mem_cons, List.not_mem_nil, or_false] at hL
    first
      | (rcases hL with rfl | rfl <;> simp [lsQ])
      | (rcases hL with rfl | rfl | rfl <;> simp [lsQ])
      | (rcases hL with rfl | rfl | rfl | rfl <;> simp [lsQ])

end Go.Gm

/-
  The statements about curves, part F: CurveSplits. Plain theorems; no condition.
-/
namespace Go.Gm
open Go.Proofs

attribute [local irreducible] sameL bez mkRat rq leftQ rightQ


def sCurveSplits : List RV → Option (Prop × Res)
  | [.one (.sl 6 c), .agg [.b (.val (.bool s)), .b (.nat l), .b (.nat t)], .agg [.b (.val (.bool s')), .b (.nat l'), .b (.nat t')]] => some (IsP c, .r (.val (.bool true)))
  | _ => none

set_option maxRecDepth 20000 in
set_option maxHeartbeats 4000000 in
theorem ok_CurveSplits : Ok1 24 sCurveSplits := by
  refine ok_of TE1_ok Try.func24 rfl (by kernel_rfl) ?_
  intro xs pre res h hp hlim
  unfold sCurveSplits at h
  split at h
  · rename_i c s l t s' l' t'
    cases h
    have hl : Lim l := hlim.2.1.2.1
    have ht : Lim t := hlim.2.1.2.2.1
    have hl' : Lim l' := hlim.2.2.1.2.1
    have ht' : Lim t' := hlim.2.2.1.2.2.1
    refine And.intro (Nat.le_of_ble_eq_true rfl) ?_
    repeat first | refine And.intro rfl ?_ | refine Or.inl (And.intro rfl ?_) | refine Or.inr (And.intro rfl ?_) | refine And.intro (fun (_ : true = true) => ?_) (fun (h : true = false) => Bool.noConfusion h) | refine And.intro (fun (h : false = true) => Bool.noConfusion h) (fun (_ : false = false) => ?_)
    refine And.intro (show IsP c ∧ (4 : Int) ≤ 1000 from ⟨hp, by decide⟩) ?_
    repeat first | refine And.intro rfl ?_ | refine And.intro True.intro ?_ | refine Or.inl (And.intro rfl ?_) | refine Or.inr (And.intro rfl ?_) | refine And.intro (fun (_ : true = true) => ?_) (fun (h : true = false) => Bool.noConfusion h) | refine And.intro (fun (h : false = true) => Bool.noConfusion h) (fun (_ : false = false) => ?_)
    cases hL : (decide ((c.length : Int) ≤ 4) && (ptsOf c).all (lightPR 3)) with
    | false =>
      refine Or.inr (And.intro rfl ?_)
      repeat first | refine And.intro rfl ?_ | refine And.intro True.intro ?_ | refine Or.inl (And.intro rfl ?_) | refine Or.inr (And.intro rfl ?_) | refine And.intro (fun (_ : true = true) => ?_) (fun (h : true = false) => Bool.noConfusion h) | refine And.intro (fun (h : false = true) => Bool.noConfusion h) (fun (_ : false = false) => ?_)
      rfl
    | true =>
      refine Or.inl (And.intro rfl ?_)
      obtain ⟨h4, ps, rfl, hpl, hps⟩ := light_c (m := 4) (n := 3) hp hL
      rw [← hpl] at h4
      have hlm := lm_of hlim.1
      repeat first | refine And.intro rfl ?_ | refine And.intro True.intro ?_ | refine Or.inl (And.intro rfl ?_) | refine Or.inr (And.intro rfl ?_) | refine And.intro (fun (_ : true = true) => ?_) (fun (h : true = false) => Bool.noConfusion h) | refine And.intro (fun (h : false = true) => Bool.noConfusion h) (fun (_ : false = false) => ?_)
      by_cases hTl : (l.length : Int) ≤ 2 ∧ (t.length : Int) ≤ 2
      case neg =>
        refine Or.inr (And.intro (show (!decide ((l.length : Int) ≤ 2 ∧ (t.length : Int) ≤ 2)) = true by simp [hTl]) ?_)
        repeat first | refine And.intro rfl ?_ | refine And.intro True.intro ?_ | refine Or.inl (And.intro rfl ?_) | refine Or.inr (And.intro rfl ?_) | refine And.intro (fun (_ : true = true) => ?_) (fun (h : true = false) => Bool.noConfusion h) | refine And.intro (fun (h : false = true) => Bool.noConfusion h) (fun (_ : false = false) => ?_)
        rfl
      refine Or.inl (And.intro (show (!decide ((l.length : Int) ≤ 2 ∧ (t.length : Int) ≤ 2)) = false by simp [hTl]) ?_)
      repeat first | refine And.intro rfl ?_ | refine And.intro True.intro ?_ | refine Or.inl (And.intro rfl ?_) | refine Or.inr (And.intro rfl ?_) | refine And.intro (fun (_ : true = true) => ?_) (fun (h : true = false) => Bool.noConfusion h) | refine And.intro (fun (h : false = true) => Bool.noConfusion h) (fun (_ : false = false) => ?_)
      by_cases hTl' : (l'.length : Int) ≤ 2 ∧ (t'.length : Int) ≤ 2
      case neg =>
        refine Or.inr (And.intro (show (!decide ((l'.length : Int) ≤ 2 ∧ (t'.length : Int) ≤ 2)) = true by simp [hTl']) ?_)
        repeat first | refine And.intro rfl ?_ | refine And.intro True.intro ?_ | refine Or.inl (And.intro rfl ?_) | refine Or.inr (And.intro rfl ?_) | refine And.intro (fun (_ : true = true) => ?_) (fun (h : true = false) => Bool.noConfusion h) | refine And.intro (fun (h : false = true) => Bool.noConfusion h) (fun (_ : false = false) => ?_)
        rfl
      refine Or.inl (And.intro (show (!decide ((l'.length : Int) ≤ 2 ∧ (t'.length : Int) ≤ 2)) = false by simp [hTl']) ?_)
      repeat first | refine And.intro rfl ?_ | refine And.intro True.intro ?_ | refine Or.inl (And.intro rfl ?_) | refine Or.inr (And.intro rfl ?_) | refine And.intro (fun (_ : true = true) => ?_) (fun (h : true = false) => Bool.noConfusion h) | refine And.intro (fun (h : false = true) => Bool.noConfusion h) (fun (_ : false = false) => ?_)
      refine And.intro (fun hc => ?_) (fun hc => ?_)
      · repeat first | refine And.intro rfl ?_ | refine And.intro True.intro ?_ | refine Or.inl (And.intro rfl ?_) | refine Or.inr (And.intro rfl ?_) | refine And.intro (fun (_ : true = true) => ?_) (fun (h : true = false) => Bool.noConfusion h) | refine And.intro (fun (h : false = true) => Bool.noConfusion h) (fun (_ : false = false) => ?_)
        rfl
      have h2 : 2 ≤ ps.length := by
        have hc : ¬ (((ps.map ptB).length : Nat) : Int) < 2 := of_decide_eq_false hc
        rw [List.length_map] at hc
        omega
      have oc := okC_ps h2 h4
      have vc := valsOf_B ps
      have svs := sp_vals hlm hps
      have hz := Sz.rq (s := s) (n := 2) hl ht (by omega) (by omega)
      have hz' := Sz.rq (s := s') (n := 2) hl' ht' (by omega) (by omega)
      obtain ⟨q, hq⟩ : ∃ q, q = rq s l t := ⟨_, rfl⟩
      obtain ⟨r, hr⟩ : ∃ r, r = rq s' l' t' := ⟨_, rfl⟩
      rw [← hq] at hz
      rw [← hr] at hz'
      obtain ⟨vs, hvs⟩ : ∃ vs, vs = ps.map PR.v := ⟨_, rfl⟩
      have hvl : vs.length = ps.length := by rw [hvs, List.length_map]
      rw [← hvs] at vc svs
      have v2 : 2 ≤ vs.length := by omega
      have v4 : vs.length ≤ 4 := by omega
      repeat first | refine And.intro rfl ?_ | refine And.intro True.intro ?_ | refine Or.inl (And.intro rfl ?_) | refine Or.inr (And.intro rfl ?_) | refine And.intro (fun (_ : true = true) => ?_) (fun (h : true = false) => Bool.noConfusion h) | refine And.intro (fun (h : false = true) => Bool.noConfusion h) (fun (_ : false = false) => ?_)
      refine And.intro (And.intro (sh_ps hps (by decide)) (And.intro (show l.length ≤ 300 by omega) (show t.length ≤ 300 by omega))) ?_
      rw [oc, vc, ← hq]
      generalize eA : leftQ vs q = A
      generalize eB : rightQ vs q = B'
      rw [show cond true (nB A) [] = nB A from rfl, show cond true (nB B') [] = nB B' from rfl]
      have hA : A.length = vs.length := by rw [← eA, leftQ_len _ (by omega)]
      have hB : B'.length = vs.length := by rw [← eB, rightQ_len _ (by omega)]
      have sA : ∀ p, p ∈ A → Sp 186 p := by rw [← eA]; exact fun p hp => (left_sp hz v2 v4 svs p hp).mono (by decide +kernel)
      have sB : ∀ p, p ∈ B' → Sp 186 p := by rw [← eB]; exact fun p hp => (right_sp hz v2 v4 svs p hp).mono (by decide +kernel)
      have lA : ((((nB A).length : Nat) : Int) != (((ps.map ptB).length : Nat) : Int)) = false := by rw [nB_len, List.length_map, hA, hvl]; simp
      have lB : ((((nB B').length : Nat) : Int) != (((ps.map ptB).length : Nat) : Int)) = false := by rw [nB_len, List.length_map, hB, hvl]; simp
      have oA : okC (nB A) = true := by rw [ok_nB]; exact decide_eq_true ⟨by omega, by omega⟩
      have oB : okC (nB B') = true := by rw [ok_nB]; exact decide_eq_true ⟨by omega, by omega⟩
      repeat first | refine And.intro rfl ?_ | refine And.intro True.intro ?_ | refine Or.inl (And.intro rfl ?_) | refine Or.inr (And.intro rfl ?_) | refine And.intro (fun (_ : true = true) => ?_) (fun (h : true = false) => Bool.noConfusion h) | refine And.intro (fun (h : false = true) => Bool.noConfusion h) (fun (_ : false = false) => ?_)
      refine Or.inl (And.intro lA ?_)
      repeat first | refine And.intro rfl ?_ | refine And.intro True.intro ?_ | refine Or.inl (And.intro rfl ?_) | refine Or.inr (And.intro rfl ?_) | refine And.intro (fun (_ : true = true) => ?_) (fun (h : true = false) => Bool.noConfusion h) | refine And.intro (fun (h : false = true) => Bool.noConfusion h) (fun (_ : false = false) => ?_)
      refine And.intro (fun hc => ?_) (fun hc => ?_)
      · exfalso
        have hc : ((((nB B').length : Nat) : Int) != (((ps.map ptB).length : Nat) : Int)) = true := hc
        rw [lB] at hc
        cases hc
      repeat first | refine And.intro rfl ?_ | refine And.intro True.intro ?_ | refine Or.inl (And.intro rfl ?_) | refine Or.inr (And.intro rfl ?_) | refine And.intro (fun (_ : true = true) => ?_) (fun (h : true = false) => Bool.noConfusion h) | refine And.intro (fun (h : false = true) => Bool.noConfusion h) (fun (_ : false = false) => ?_)
      refine And.intro (And.intro (sh_nB sA (by decide)) (And.intro (show l'.length ≤ 300 by omega) (show t'.length ≤ 300 by omega))) ?_
      rw [oA, vals_nB A, ← hr]
      generalize eP : bez A r = P
      have sP : Sp 5100 P := by rw [← eP]; exact (bez_sp3 hz' (by omega) (by omega) sA).mono (by decide +kernel)
      repeat first | refine And.intro rfl ?_ | refine And.intro True.intro ?_ | refine Or.inl (And.intro rfl ?_) | refine Or.inr (And.intro rfl ?_) | refine And.intro (fun (_ : true = true) => ?_) (fun (h : true = false) => Bool.noConfusion h) | refine And.intro (fun (h : false = true) => Bool.noConfusion h) (fun (_ : false = false) => ?_)
      refine And.intro (And.intro (sh_nB sB (by decide)) (And.intro (show l'.length ≤ 300 by omega) (show t'.length ≤ 300 by omega))) ?_
      rw [oB, vals_nB B', ← hr]
      generalize eQ : bez B' r = Q
      have sQ : Sp 5100 Q := by rw [← eQ]; exact (bez_sp3 hz' (by omega) (by omega) sB).mono (by decide +kernel)
      repeat first | refine And.intro rfl ?_ | refine And.intro True.intro ?_ | refine Or.inl (And.intro rfl ?_) | refine Or.inr (And.intro rfl ?_) | refine And.intro (fun (_ : true = true) => ?_) (fun (h : true = false) => Bool.noConfusion h) | refine And.intro (fun (h : false = true) => Bool.noConfusion h) (fun (_ : false = false) => ?_)
      refine And.intro (show _ ∧ _ ∧ _ ∧ _ ∧ _ ∧ DivFit _ from ⟨by decide, by decide, by decide, by decide, by decide, trivial⟩) ?_
      generalize eun : mkRat (sg _ _) _ = un
      have vun : un = 1 := by rw [← eun]; decide +kernel
      have zun : Sz 1 un := by rw [vun]; exact szB (by decide +kernel)
      have qun := rq_cq un
      repeat first | refine And.intro rfl ?_ | refine And.intro True.intro ?_ | refine Or.inl (And.intro rfl ?_) | refine Or.inr (And.intro rfl ?_) | refine And.intro (fun (_ : true = true) => ?_) (fun (h : true = false) => Bool.noConfusion h) | refine And.intro (fun (h : false = true) => Bool.noConfusion h) (fun (_ : false = false) => ?_)
      refine And.intro (And.intro (show l.length ≤ 40000 by omega) (And.intro (show t.length ≤ 40000 by omega) (And.intro (show l'.length ≤ 40000 by omega) (show t'.length ≤ 40000 by omega)))) ?_
      rw [← hq, ← hr]
      generalize ew : q * r = w
      have zw : Sz 7 w := by rw [← ew]; exact (hz.mul hz').mono (by decide)
      have qw := rq_cq w
      repeat first | refine And.intro rfl ?_ | refine And.intro True.intro ?_ | refine Or.inl (And.intro rfl ?_) | refine Or.inr (And.intro rfl ?_) | refine And.intro (fun (_ : true = true) => ?_) (fun (h : true = false) => Bool.noConfusion h) | refine And.intro (fun (h : false = true) => Bool.noConfusion h) (fun (_ : false = false) => ?_)
      refine And.intro (And.intro (sh_ps hps (by decide)) (And.intro (zw.lenN (by decide)) (zw.lenD (by decide)))) ?_
      rw [oc, vc, qw]
      generalize eX : bez vs _ = X
      have sX : Sp 238 X := by rw [← eX]; exact (bez_sp3 zw v2 v4 svs).mono (by decide +kernel)
      repeat first | refine And.intro rfl ?_ | refine And.intro True.intro ?_ | refine Or.inl (And.intro rfl ?_) | refine Or.inr (And.intro rfl ?_) | refine And.intro (fun (_ : true = true) => ?_) (fun (h : true = false) => Bool.noConfusion h) | refine And.intro (fun (h : false = true) => Bool.noConfusion h) (fun (_ : false = false) => ?_)
      refine And.intro (And.intro (zun.lenN (by decide)) (And.intro (zun.lenD (by decide)) (And.intro (show l.length ≤ 39999 by omega) (show t.length ≤ 39999 by omega)))) ?_
      rw [qun, ← hq]
      generalize ex : un - q = x
      have zx : Sz 5 x := by rw [← ex]; exact (zun.sub hz).mono (by decide)
      have qx := rq_cq x
      repeat first | refine And.intro rfl ?_ | refine And.intro True.intro ?_ | refine Or.inl (And.intro rfl ?_) | refine Or.inr (And.intro rfl ?_) | refine And.intro (fun (_ : true = true) => ?_) (fun (h : true = false) => Bool.noConfusion h) | refine And.intro (fun (h : false = true) => Bool.noConfusion h) (fun (_ : false = false) => ?_)
      refine And.intro (And.intro (zx.lenN (by decide)) (And.intro (zx.lenD (by decide)) (And.intro (show l'.length ≤ 40000 by omega) (show t'.length ≤ 40000 by omega)))) ?_
      rw [qx, ← hr]
      generalize ey : x * r = y
      have zy : Sz 9 y := by rw [← ey]; exact (zx.mul hz').mono (by decide)
      have qy := rq_cq y
      repeat first | refine And.intro rfl ?_ | refine And.intro True.intro ?_ | refine Or.inl (And.intro rfl ?_) | refine Or.inr (And.intro rfl ?_) | refine And.intro (fun (_ : true = true) => ?_) (fun (h : true = false) => Bool.noConfusion h) | refine And.intro (fun (h : false = true) => Bool.noConfusion h) (fun (_ : false = false) => ?_)
      refine And.intro (And.intro (show l.length ≤ 40000 by omega) (And.intro (show t.length ≤ 40000 by omega) (And.intro (zy.lenN (by decide)) (zy.lenD (by decide))))) ?_
      rw [qy, ← hq]
      generalize ev : q + y = v
      have zv : Sz 13 v := by rw [← ev]; exact (hz.add zy).mono (by decide)
      have qv := rq_cq v
      repeat first | refine And.intro rfl ?_ | refine And.intro True.intro ?_ | refine Or.inl (And.intro rfl ?_) | refine Or.inr (And.intro rfl ?_) | refine And.intro (fun (_ : true = true) => ?_) (fun (h : true = false) => Bool.noConfusion h) | refine And.intro (fun (h : false = true) => Bool.noConfusion h) (fun (_ : false = false) => ?_)
      refine And.intro (And.intro (sh_ps hps (by decide)) (And.intro (zv.lenN (by decide)) (zv.lenD (by decide)))) ?_
      rw [oc, vc, qv]
      generalize eY : bez vs _ = Y
      have sY : Sp 316 Y := by rw [← eY]; exact (bez_sp3 zv v2 v4 svs).mono (by decide +kernel)
      repeat first | refine And.intro rfl ?_ | refine And.intro True.intro ?_ | refine Or.inl (And.intro rfl ?_) | refine Or.inr (And.intro rfl ?_) | refine And.intro (fun (_ : true = true) => ?_) (fun (h : true = false) => Bool.noConfusion h) | refine And.intro (fun (h : false = true) => Bool.noConfusion h) (fun (_ : false = false) => ?_)
      refine And.intro (And.intro (sh_ps hps (by decide)) (And.intro (show l.length ≤ 300 by omega) (show t.length ≤ 300 by omega))) ?_
      rw [oc, vc, ← hq]
      generalize eM : bez vs q = M
      have sM : Sp 186 M := by rw [← eM]; exact (bez_sp3 hz v2 v4 svs).mono (by decide +kernel)
      repeat first | refine And.intro rfl ?_ | refine And.intro True.intro ?_ | refine Or.inl (And.intro rfl ?_) | refine Or.inr (And.intro rfl ?_) | refine And.intro (fun (_ : true = true) => ?_) (fun (h : true = false) => Bool.noConfusion h) | refine And.intro (fun (h : false = true) => Bool.noConfusion h) (fun (_ : false = false) => ?_)
      have hPX : P = X := by rw [← eP, ← eA, bez_left v2 v4, ew, eX]
      have hQY : Q = Y := by rw [← eQ, ← eB, bez_right v2 v4, ← eY, ← ev, ← ey, ← ex, vun]
      have hAM : A.getD (vs.length - 1) (0, 0) = M := by rw [← eA, left_last v2 v4, eM]
      have hBM : B'.getD 0 (0, 0) = M := by rw [← eB, right_head v2 v4, eM]
      have two : ∀ {n : Nat} {p q : Rat × Rat}, Sp n p → Sp n q → n ≤ 1000000 → ShP 1000000 (nB [p, q]) := fun h1 h2 hn => sh_nB (fun z hz => by
        simp only [List.mem_cons, List.not_mem_nil, or_false] at hz
        rcases hz with rfl | rfl
        · exact h1
        · exact h2) hn
      refine And.intro (And.intro (two sP sQ (by decide)) (And.intro (isP_B (nrm [X, Y])) (show (nB [P, Q]).length ≤ 1000 by rw [nB_len]; exact Nat.le_of_ble_eq_true rfl))) ?_
      repeat first | refine And.intro rfl ?_ | refine And.intro True.intro ?_ | refine Or.inl (And.intro rfl ?_) | refine Or.inr (And.intro rfl ?_) | refine And.intro (fun (_ : true = true) => ?_) (fun (h : true = false) => Bool.noConfusion h) | refine And.intro (fun (h : false = true) => Bool.noConfusion h) (fun (_ : false = false) => ?_)
      refine Or.inl (And.intro (same_nB (L := [P, Q]) (M := [X, Y]) (by rw [hPX, hQY])) ?_)
      repeat first | refine And.intro rfl ?_ | refine And.intro True.intro ?_ | refine Or.inl (And.intro rfl ?_) | refine Or.inr (And.intro rfl ?_) | refine And.intro (fun (_ : true = true) => ?_) (fun (h : true = false) => Bool.noConfusion h) | refine And.intro (fun (h : false = true) => Bool.noConfusion h) (fun (_ : false = false) => ?_)
      have hwA : IntKind.i64.wrap ((((nB A).length : Nat) : Int) - 1) = ((vs.length - 1 : Nat) : Int) := by rw [nB_len, hA, wI (by omega) (by omega)]; omega
      have gA : (nB A).getD (vs.length - 1) [] = ptB (prQ M) := by
        rw [← hAM]
        have h0 : vs.length - 1 < A.length := by omega
        simp [nB, nrm, List.getD_eq_getElem?_getD, h0]
      have gB : (nB B').getD (0 : Int).toNat [] = ptB (prQ M) := by
        rw [← hBM]
        have h0 : 0 < B'.length := by omega
        simp [nB, nrm, List.getD_eq_getElem?_getD, h0]
      refine And.intro (show 0 ≤ IntKind.i64.wrap ((((nB A).length : Nat) : Int) - 1) ∧ IntKind.i64.wrap ((((nB A).length : Nat) : Int) - 1) < (((nB A).length : Nat) : Int) by rw [hwA, nB_len]; omega) ?_
      rw [hwA, Int.toNat_natCast, gA]
      repeat first | refine And.intro rfl ?_ | refine And.intro True.intro ?_ | refine Or.inl (And.intro rfl ?_) | refine Or.inr (And.intro rfl ?_) | refine And.intro (fun (_ : true = true) => ?_) (fun (h : true = false) => Bool.noConfusion h) | refine And.intro (fun (h : false = true) => Bool.noConfusion h) (fun (_ : false = false) => ?_)
      refine And.intro (show 0 ≤ (0 : Int) ∧ (0 : Int) < (((nB B').length : Nat) : Int) by rw [nB_len]; omega) ?_
      rw [gB]
      repeat first | refine And.intro rfl ?_ | refine And.intro True.intro ?_ | refine Or.inl (And.intro rfl ?_) | refine Or.inr (And.intro rfl ?_) | refine And.intro (fun (_ : true = true) => ?_) (fun (h : true = false) => Bool.noConfusion h) | refine And.intro (fun (h : false = true) => Bool.noConfusion h) (fun (_ : false = false) => ?_)
      refine And.intro (And.intro (two sM sM (by decide)) (And.intro (isP_B (nrm [M, M])) (show (nB [M, M]).length ≤ 1000 by rw [nB_len]; exact Nat.le_of_ble_eq_true rfl))) ?_
      repeat first | refine And.intro rfl ?_ | refine And.intro True.intro ?_ | refine Or.inl (And.intro rfl ?_) | refine Or.inr (And.intro rfl ?_) | refine And.intro (fun (_ : true = true) => ?_) (fun (h : true = false) => Bool.noConfusion h) | refine And.intro (fun (h : false = true) => Bool.noConfusion h) (fun (_ : false = false) => ?_)
      refine Or.inl (And.intro (same_nB (L := [M, M]) (M := [M, M]) rfl) ?_)
      repeat first | refine And.intro rfl ?_ | refine And.intro True.intro ?_ | refine Or.inl (And.intro rfl ?_) | refine Or.inr (And.intro rfl ?_) | refine And.intro (fun (_ : true = true) => ?_) (fun (h : true = false) => Bool.noConfusion h) | refine And.intro (fun (h : false = true) => Bool.noConfusion h) (fun (_ : false = false) => ?_)
      rfl
  · cases h

end Go.Gm

/-
  The statements about curves, part G: CurveMoves and CurveRefines. Plain theorems; no condition.
-/
namespace Go.Gm
open Go.Proofs

attribute [local irreducible] sameL bez mkRat rq fltQ


theorem light_one (n : Int) (d : PR) : (decide ((([ptB d].length : Nat) : Int) ≤ 1) && (ptsOf [ptB d]).all (lightPR n)) = lightPR n d := by
  show (decide ((1 : Int) ≤ 1) && ([ptOf (ptB d)].all (lightPR n))) = _
  rw [ptOf_B]
  simp

theorem nB_at (L : List (Rat × Rat)) (i : Nat) (h : i < L.length) : (nB L).getD i [] = ptB (prQ (L.getD i (0, 0))) := by
  simp [nB, nrm, List.getD_eq_getElem?_getD, h]
theorem getD_map' {α β : Type} (f : α → β) (l : List α) (i : Nat) (a : α) (b : β) (h : i < l.length) : (l.map f).getD i b = f (l.getD i a) := by
  simp [List.getD_eq_getElem?_getD, h]

def sCurveMoves : List RV → Option (Prop × Res)
  | [.one (.sl 6 c), .agg [.b (.val (.bool s1)), .b (.nat l1), .b (.nat t1), .b (.val (.bool z1)), .b (.nat k1), .b (.nat u1)], .agg [.b (.val (.bool s)), .b (.nat l), .b (.nat t)]] => some (IsP c, .r (.val (.bool true)))
  | _ => none

set_option maxHeartbeats 4000000 in
theorem ok_CurveMoves : Ok1 26 sCurveMoves := by
  refine ok_of TE1_ok Try.func26 rfl (by kernel_rfl) ?_
  intro xs pre res h hp hlim
  unfold sCurveMoves at h
  split at h
  · rename_i c s1 l1 t1 z1 k1 u1 s l t
    cases h
    have hl : Lim l := hlim.2.2.1.2.1
    have ht : Lim t := hlim.2.2.1.2.2.1
    obtain ⟨d, hd⟩ : ∃ d : PR, d = ⟨s1, l1, t1, z1, k1, u1⟩ := ⟨_, rfl⟩
    have dlm : d.Lm := by rw [hd]; exact ⟨hlim.2.1.2.1, hlim.2.1.2.2.1, hlim.2.1.2.2.2.2.1, hlim.2.1.2.2.2.2.2.1⟩
    refine And.intro (Nat.le_of_ble_eq_true rfl) ?_
    repeat first | refine And.intro rfl ?_ | refine Or.inl (And.intro rfl ?_) | refine Or.inr (And.intro rfl ?_) | refine And.intro (fun (_ : true = true) => ?_) (fun (h : true = false) => Bool.noConfusion h) | refine And.intro (fun (h : false = true) => Bool.noConfusion h) (fun (_ : false = false) => ?_)
    refine And.intro (show IsP c ∧ (4 : Int) ≤ 1000 from ⟨hp, by decide⟩) ?_
    repeat first | refine And.intro rfl ?_ | refine And.intro True.intro ?_ | refine Or.inl (And.intro rfl ?_) | refine Or.inr (And.intro rfl ?_) | refine And.intro (fun (_ : true = true) => ?_) (fun (h : true = false) => Bool.noConfusion h) | refine And.intro (fun (h : false = true) => Bool.noConfusion h) (fun (_ : false = false) => ?_)
    cases hL : (decide ((c.length : Int) ≤ 4) && (ptsOf c).all (lightPR 3)) with
    | false =>
      refine Or.inr (And.intro rfl ?_)
      repeat first | refine And.intro rfl ?_ | refine And.intro True.intro ?_ | refine Or.inl (And.intro rfl ?_) | refine Or.inr (And.intro rfl ?_) | refine And.intro (fun (_ : true = true) => ?_) (fun (h : true = false) => Bool.noConfusion h) | refine And.intro (fun (h : false = true) => Bool.noConfusion h) (fun (_ : false = false) => ?_)
      rfl
    | true =>
      refine Or.inl (And.intro rfl ?_)
      obtain ⟨h4, ps, rfl, hpl, hps⟩ := light_c (m := 4) (n := 3) hp hL
      rw [← hpl] at h4
      have hlm := lm_of hlim.1
      repeat first | refine And.intro rfl ?_ | refine And.intro True.intro ?_ | refine Or.inl (And.intro rfl ?_) | refine Or.inr (And.intro rfl ?_) | refine And.intro (fun (_ : true = true) => ?_) (fun (h : true = false) => Bool.noConfusion h) | refine And.intro (fun (h : false = true) => Bool.noConfusion h) (fun (_ : false = false) => ?_)
      refine And.intro (And.intro (show IsP [ptB ⟨s1, l1, t1, z1, k1, u1⟩] from isP_B [⟨s1, l1, t1, z1, k1, u1⟩]) (show (1 : Int) ≤ 1000 by decide)) ?_
      repeat first | refine And.intro rfl ?_ | refine And.intro True.intro ?_ | refine Or.inl (And.intro rfl ?_) | refine Or.inr (And.intro rfl ?_) | refine And.intro (fun (_ : true = true) => ?_) (fun (h : true = false) => Bool.noConfusion h) | refine And.intro (fun (h : false = true) => Bool.noConfusion h) (fun (_ : false = false) => ?_)
      have hlo := light_one 3 ⟨s1, l1, t1, z1, k1, u1⟩
      cases hD : lightPR 3 ⟨s1, l1, t1, z1, k1, u1⟩ with
      | false =>
        rw [hD] at hlo
        refine Or.inr (And.intro (congrArg Bool.not hlo) ?_)
        repeat first | refine And.intro rfl ?_ | refine And.intro True.intro ?_ | refine Or.inl (And.intro rfl ?_) | refine Or.inr (And.intro rfl ?_) | refine And.intro (fun (_ : true = true) => ?_) (fun (h : true = false) => Bool.noConfusion h) | refine And.intro (fun (h : false = true) => Bool.noConfusion h) (fun (_ : false = false) => ?_)
        rfl
      | true =>
        rw [hD] at hlo
        refine Or.inl (And.intro (congrArg Bool.not hlo) ?_)
        have dle : d.Le 3 := by rw [hd]; exact lightPR_le (n := 3) hD
        repeat first | refine And.intro rfl ?_ | refine And.intro True.intro ?_ | refine Or.inl (And.intro rfl ?_) | refine Or.inr (And.intro rfl ?_) | refine And.intro (fun (_ : true = true) => ?_) (fun (h : true = false) => Bool.noConfusion h) | refine And.intro (fun (h : false = true) => Bool.noConfusion h) (fun (_ : false = false) => ?_)
        by_cases hT : (l.length : Int) ≤ 2 ∧ (t.length : Int) ≤ 2
        case neg =>
          refine Or.inr (And.intro (show (!decide ((l.length : Int) ≤ 2 ∧ (t.length : Int) ≤ 2)) = true by simp [hT]) ?_)
          repeat first | refine And.intro rfl ?_ | refine And.intro True.intro ?_ | refine Or.inl (And.intro rfl ?_) | refine Or.inr (And.intro rfl ?_) | refine And.intro (fun (_ : true = true) => ?_) (fun (h : true = false) => Bool.noConfusion h) | refine And.intro (fun (h : false = true) => Bool.noConfusion h) (fun (_ : false = false) => ?_)
          rfl
        refine Or.inl (And.intro (show (!decide ((l.length : Int) ≤ 2 ∧ (t.length : Int) ≤ 2)) = false by simp [hT]) ?_)
        repeat first | refine And.intro rfl ?_ | refine And.intro True.intro ?_ | refine Or.inl (And.intro rfl ?_) | refine Or.inr (And.intro rfl ?_) | refine And.intro (fun (_ : true = true) => ?_) (fun (h : true = false) => Bool.noConfusion h) | refine And.intro (fun (h : false = true) => Bool.noConfusion h) (fun (_ : false = false) => ?_)
        refine And.intro (fun hc => ?_) (fun hc => ?_)
        · repeat first | refine And.intro rfl ?_ | refine And.intro True.intro ?_ | refine Or.inl (And.intro rfl ?_) | refine Or.inr (And.intro rfl ?_) | refine And.intro (fun (_ : true = true) => ?_) (fun (h : true = false) => Bool.noConfusion h) | refine And.intro (fun (h : false = true) => Bool.noConfusion h) (fun (_ : false = false) => ?_)
          rfl
        have h2 : 2 ≤ ps.length := by
          have hc : ¬ (((ps.map ptB).length : Nat) : Int) < 2 := of_decide_eq_false hc
          rw [List.length_map] at hc
          omega
        have oc := okC_ps h2 h4
        have vc := valsOf_B ps
        have svs := sp_vals hlm hps
        have hz := Sz.rq (s := s) (n := 2) hl ht (by omega) (by omega)
        obtain ⟨q, hq⟩ : ∃ q, q = rq s l t := ⟨_, rfl⟩
        rw [← hq] at hz
        obtain ⟨vs, hvs⟩ : ∃ vs, vs = ps.map PR.v := ⟨_, rfl⟩
        have hvl : vs.length = ps.length := by rw [hvs, List.length_map]
        rw [← hvs] at vc svs
        have v2 : 2 ≤ vs.length := by omega
        have v4 : vs.length ≤ 4 := by omega
        obtain ⟨dv, hdv⟩ : ∃ dv, dv = d.v := ⟨_, rfl⟩
        have sd : Sp 4 dv := by rw [hdv]; exact PR.sp dlm dle
        obtain ⟨ms, hms⟩ : ∃ ms, ms = vs.map (movP dv) := ⟨_, rfl⟩
        obtain ⟨cs, hcs⟩ : ∃ cs, cs = vs.map (sclP dv.1) := ⟨_, rfl⟩
        have hml : ms.length = ps.length := by rw [hms, List.length_map, hvl]
        have hcl : cs.length = ps.length := by rw [hcs, List.length_map, hvl]
        have sms : ∀ p, p ∈ ms → Sp 9 p := by
          rw [hms]
          intro p hp
          obtain ⟨v, hv, rfl⟩ := List.mem_map.1 hp
          exact ⟨((svs v hv).1.add sd.1).mono (by decide), ((svs v hv).2.add sd.2).mono (by decide)⟩
        have scs : ∀ p, p ∈ cs → Sp 9 p := by
          rw [hcs]
          intro p hp
          obtain ⟨v, hv, rfl⟩ := List.mem_map.1 hp
          exact ⟨((svs v hv).1.mul sd.1).mono (by decide), ((svs v hv).2.mul sd.1).mono (by decide)⟩
        have om : okC (nB ms) = true := by rw [ok_nB]; exact decide_eq_true ⟨by omega, by omega⟩
        have os_ : okC (nB cs) = true := by rw [ok_nB]; exact decide_eq_true ⟨by omega, by omega⟩
        repeat first | refine And.intro rfl ?_ | refine And.intro True.intro ?_ | refine Or.inl (And.intro rfl ?_) | refine Or.inr (And.intro rfl ?_) | refine And.intro (fun (_ : true = true) => ?_) (fun (h : true = false) => Bool.noConfusion h) | refine And.intro (fun (h : false = true) => Bool.noConfusion h) (fun (_ : false = false) => ?_)
        refine Exists.intro {k : Nat // k ≤ ps.length} (Exists.intro (fun k => ⟨[(0, .one (.sl 6 (ps.map ptB))), (4, .ptr 0 0), (5, .ptr 1 0), (7, .own 0), (8, .own 1), (37, .one (.sl 6 (ps.map ptB))), (38, .val (.int .i64 ((ps.map ptB).length : Nat))), (39, .val (.int .i64 (k.1 : Nat)))], ⟨[(38, [.val (.bool s1), .nat l1, .nat t1, .val (.bool z1), .nat k1, .nat u1]), (36, [.val (.bool s), .nat l, .nat t])], [.s 38 6 (nB (ms.take k.1)), .s 38 6 (nB (cs.take k.1))]⟩⟩) (Exists.intro (fun k => ps.length - k.1) (Exists.intro ⟨0, by omega⟩ (And.intro ?_ ?_))))
        · repeat first | exact trivial | refine And.intro rfl ?_ | refine And.intro trivial ?_ | refine And.intro (And.intro rfl trivial) ?_ | refine And.intro (And.intro rfl (And.intro rfl trivial)) ?_
        · rintro ⟨k, hk⟩
          repeat first | refine And.intro rfl ?_ | refine Or.inl (And.intro rfl ?_) | refine Or.inr (And.intro rfl ?_) | refine And.intro (fun (_ : true = true) => ?_) (fun (h : true = false) => Bool.noConfusion h) | refine And.intro (fun (h : false = true) => Bool.noConfusion h) (fun (_ : false = false) => ?_)
          refine And.intro (fun hc => ?_) (fun hc => ?_)
          · have hk' : (k : Int) < (((ps.map ptB).length : Nat) : Int) := of_decide_eq_true hc
            rw [List.length_map] at hk'
            have g1 : (ps.map ptB).getD (k : Int).toNat [] = ptB (ps.getD k PR.zero) := getD_ptB ps k (by omega)
            have kp := (hps _ (getD_mem' ps k PR.zero (by omega))).mono (show 3 ≤ 39000 by decide)
            have kd := dle.mono (show 3 ≤ 39000 by decide)
            rw [hd] at kd
            have em : ms.getD k (0, 0) = movP dv (ps.getD k PR.zero).v := by rw [hms, getD_map' _ _ _ (0, 0) _ (by omega), hvs, getD_v ps k (by omega)]
            have ec : cs.getD k (0, 0) = sclP dv.1 (ps.getD k PR.zero).v := by rw [hcs, getD_map' _ _ _ (0, 0) _ (by omega), hvs, getD_v ps k (by omega)]
            repeat first | refine And.intro rfl ?_ | refine Or.inl (And.intro rfl ?_) | refine Or.inr (And.intro rfl ?_) | refine And.intro (fun (_ : true = true) => ?_) (fun (h : true = false) => Bool.noConfusion h) | refine And.intro (fun (h : false = true) => Bool.noConfusion h) (fun (_ : false = false) => ?_)
            refine And.intro (show 0 ≤ (k : Int) ∧ (k : Int) < (((ps.map ptB).length : Nat) : Int) by rw [List.length_map]; omega) ?_
            rw [g1]
            repeat first | refine And.intro rfl ?_ | refine And.intro True.intro ?_ | refine Or.inl (And.intro rfl ?_) | refine Or.inr (And.intro rfl ?_) | refine And.intro (fun (_ : true = true) => ?_) (fun (h : true = false) => Bool.noConfusion h) | refine And.intro (fun (h : false = true) => Bool.noConfusion h) (fun (_ : false = false) => ?_)
            refine And.intro (And.intro kp.1 (And.intro kp.2.1 (And.intro kp.2.2.1 (And.intro kp.2.2.2 (And.intro kd.1 (And.intro kd.2.1 (And.intro kd.2.2.1 kd.2.2.2))))))) ?_
            repeat first | refine And.intro rfl ?_ | refine And.intro True.intro ?_ | refine Or.inl (And.intro rfl ?_) | refine Or.inr (And.intro rfl ?_) | refine And.intro (fun (_ : true = true) => ?_) (fun (h : true = false) => Bool.noConfusion h) | refine And.intro (fun (h : false = true) => Bool.noConfusion h) (fun (_ : false = false) => ?_)
            refine And.intro (show (nB (ms.take k)).length + 1 ≤ 1000000 by rw [nB_len, List.length_take]; omega) ?_
            repeat first | refine And.intro rfl ?_ | refine And.intro True.intro ?_ | refine Or.inl (And.intro rfl ?_) | refine Or.inr (And.intro rfl ?_) | refine And.intro (fun (_ : true = true) => ?_) (fun (h : true = false) => Bool.noConfusion h) | refine And.intro (fun (h : false = true) => Bool.noConfusion h) (fun (_ : false = false) => ?_)
            refine And.intro (And.intro kp.1 (And.intro kp.2.1 (And.intro kp.2.2.1 (And.intro kp.2.2.2 (And.intro kd.1 kd.2.1))))) ?_
            repeat first | refine And.intro rfl ?_ | refine And.intro True.intro ?_ | refine Or.inl (And.intro rfl ?_) | refine Or.inr (And.intro rfl ?_) | refine And.intro (fun (_ : true = true) => ?_) (fun (h : true = false) => Bool.noConfusion h) | refine And.intro (fun (h : false = true) => Bool.noConfusion h) (fun (_ : false = false) => ?_)
            refine And.intro (show (nB (cs.take k)).length + 1 ≤ 1000000 by rw [nB_len, List.length_take]; omega) ?_
            repeat first | refine And.intro rfl ?_ | refine And.intro True.intro ?_ | refine Or.inl (And.intro rfl ?_) | refine Or.inr (And.intro rfl ?_) | refine And.intro (fun (_ : true = true) => ?_) (fun (h : true = false) => Bool.noConfusion h) | refine And.intro (fun (h : false = true) => Bool.noConfusion h) (fun (_ : false = false) => ?_)
            refine Exists.intro ⟨k + 1, by omega⟩ (And.intro (show ps.length - (k + 1) < ps.length - k by omega) ?_)
            repeat first | exact trivial | refine And.intro rfl ?_ | refine And.intro trivial ?_ | refine And.intro (And.intro rfl trivial) ?_ | refine And.intro (And.intro rfl (And.intro rfl trivial)) ?_
            refine And.intro (And.intro (rwSl ?_) (And.intro (rwSl ?_) trivial)) ?_
            · rw [nB_snoc ms k (by omega), em, hdv, hd]
              rfl
            · rw [nB_snoc cs k (by omega), ec, hdv, hd]
              rfl
            · repeat first | exact trivial | refine And.intro rfl ?_ | refine And.intro trivial ?_ | refine And.intro (And.intro rfl trivial) ?_ | refine And.intro (And.intro rfl (And.intro rfl trivial)) ?_
              exact And.intro (avI (show IntKind.i64.wrap ((k : Int) + 1) = ((k + 1 : Nat) : Int) by rw [wI (by omega) (by omega)]; omega)) trivial
          · have hk' : ¬ (k : Int) < (((ps.map ptB).length : Nat) : Int) := of_decide_eq_false hc
            rw [List.length_map] at hk'
            have etm : ms.take k = ms := List.take_of_length_le (by omega)
            have etc : cs.take k = cs := List.take_of_length_le (by omega)
            repeat first | refine And.intro rfl ?_ | refine And.intro True.intro ?_ | refine Or.inl (And.intro rfl ?_) | refine Or.inr (And.intro rfl ?_) | refine And.intro (fun (_ : true = true) => ?_) (fun (h : true = false) => Bool.noConfusion h) | refine And.intro (fun (h : false = true) => Bool.noConfusion h) (fun (_ : false = false) => ?_)
            refine And.intro (And.intro (sh_ps hps (by decide)) (And.intro (show l.length ≤ 300 by omega) (show t.length ≤ 300 by omega))) ?_
            rw [oc, vc, ← hq]
            generalize eP : bez vs q = P
            have sP : Sp 186 P := by rw [← eP]; exact (bez_sp3 hz v2 v4 svs).mono (by decide +kernel)
            repeat first | refine And.intro rfl ?_ | refine And.intro True.intro ?_ | refine Or.inl (And.intro rfl ?_) | refine Or.inr (And.intro rfl ?_) | refine And.intro (fun (_ : true = true) => ?_) (fun (h : true = false) => Bool.noConfusion h) | refine And.intro (fun (h : false = true) => Bool.noConfusion h) (fun (_ : false = false) => ?_)
            rw [etm]
            refine And.intro (And.intro (sh_nB sms (by decide)) (And.intro (show l.length ≤ 300 by omega) (show t.length ≤ 300 by omega))) ?_
            rw [om, vals_nB ms, ← hq]
            generalize eQ : bez ms q = Q
            have sQ : Sp 400 Q := by rw [← eQ]; exact (bez_sp3 hz (by omega) (by omega) sms).mono (by decide +kernel)
            repeat first | refine And.intro rfl ?_ | refine And.intro True.intro ?_ | refine Or.inl (And.intro rfl ?_) | refine Or.inr (And.intro rfl ?_) | refine And.intro (fun (_ : true = true) => ?_) (fun (h : true = false) => Bool.noConfusion h) | refine And.intro (fun (h : false = true) => Bool.noConfusion h) (fun (_ : false = false) => ?_)
            rw [etc]
            refine And.intro (And.intro (sh_nB scs (by decide)) (And.intro (show l.length ≤ 300 by omega) (show t.length ≤ 300 by omega))) ?_
            rw [os_, vals_nB cs, ← hq]
            generalize eR : bez cs q = R
            have sR : Sp 400 R := by rw [← eR]; exact (bez_sp3 hz (by omega) (by omega) scs).mono (by decide +kernel)
            have hQ : Q = movP dv P := by rw [← eQ, hms, bez_mov v2 v4, eP]
            have hR : R = sclP dv.1 P := by rw [← eR, hcs, bez_scl v2 v4, eP]
            have kd := dle.mono (show 3 ≤ 39000 by decide)
            rw [hd] at kd
            have edx : rq s1 l1 t1 = dv.1 := by rw [hdv, hd]; rfl
            have edy : rq z1 k1 u1 = dv.2 := by rw [hdv, hd]; rfl
            have qp1 : rq (bif !true then false else decide (P.1.num < 0)) (bif !true then [] else dg P.1.num.natAbs) (bif !true then [] else dg P.1.den) = P.1 := rq_cq P.1
            have qp2 : rq (bif !true then false else decide (P.2.num < 0)) (bif !true then [] else dg P.2.num.natAbs) (bif !true then [] else dg P.2.den) = P.2 := rq_cq P.2
            repeat first | refine And.intro rfl ?_ | refine And.intro True.intro ?_ | refine Or.inl (And.intro rfl ?_) | refine Or.inr (And.intro rfl ?_) | refine And.intro (fun (_ : true = true) => ?_) (fun (h : true = false) => Bool.noConfusion h) | refine And.intro (fun (h : false = true) => Bool.noConfusion h) (fun (_ : false = false) => ?_)
            refine And.intro (And.intro (sP.1.lenN (by decide)) (And.intro (sP.1.lenD (by decide)) (And.intro (sP.2.lenN (by decide)) (And.intro (sP.2.lenD (by decide)) (And.intro kd.1 (And.intro kd.2.1 (And.intro kd.2.2.1 kd.2.2.2))))))) ?_
            rw [qp1, qp2, edx, edy]
            have oneS : ∀ {n : Nat} {p : Rat × Rat}, Sp n p → n ≤ 1000000 → ShP 1000000 (nB [p]) := fun h1 hn => sh_nB (fun z hz => by
              simp only [List.mem_cons, List.not_mem_nil, or_false] at hz
              rw [hz]; exact h1) hn
            repeat first | refine And.intro rfl ?_ | refine And.intro True.intro ?_ | refine Or.inl (And.intro rfl ?_) | refine Or.inr (And.intro rfl ?_) | refine And.intro (fun (_ : true = true) => ?_) (fun (h : true = false) => Bool.noConfusion h) | refine And.intro (fun (h : false = true) => Bool.noConfusion h) (fun (_ : false = false) => ?_)
            refine And.intro (And.intro (show ShP 1000000 (nB [Q]) from oneS sQ (by decide)) (And.intro (isP_B (nrm [movP dv P])) (show (nB [Q]).length ≤ 1000 by rw [nB_len]; exact Nat.le_of_ble_eq_true rfl))) ?_
            repeat first | refine And.intro rfl ?_ | refine And.intro True.intro ?_ | refine Or.inl (And.intro rfl ?_) | refine Or.inr (And.intro rfl ?_) | refine And.intro (fun (_ : true = true) => ?_) (fun (h : true = false) => Bool.noConfusion h) | refine And.intro (fun (h : false = true) => Bool.noConfusion h) (fun (_ : false = false) => ?_)
            refine Or.inl (And.intro (same_nB (L := [Q]) (M := [movP dv P]) (by rw [hQ])) ?_)
            repeat first | refine And.intro rfl ?_ | refine And.intro True.intro ?_ | refine Or.inl (And.intro rfl ?_) | refine Or.inr (And.intro rfl ?_) | refine And.intro (fun (_ : true = true) => ?_) (fun (h : true = false) => Bool.noConfusion h) | refine And.intro (fun (h : false = true) => Bool.noConfusion h) (fun (_ : false = false) => ?_)
            refine And.intro (And.intro (sP.1.lenN (by decide)) (And.intro (sP.1.lenD (by decide)) (And.intro (sP.2.lenN (by decide)) (And.intro (sP.2.lenD (by decide)) (And.intro kd.1 kd.2.1))))) ?_
            rw [qp1, qp2, edx]
            repeat first | refine And.intro rfl ?_ | refine And.intro True.intro ?_ | refine Or.inl (And.intro rfl ?_) | refine Or.inr (And.intro rfl ?_) | refine And.intro (fun (_ : true = true) => ?_) (fun (h : true = false) => Bool.noConfusion h) | refine And.intro (fun (h : false = true) => Bool.noConfusion h) (fun (_ : false = false) => ?_)
            refine And.intro (And.intro (show ShP 1000000 (nB [R]) from oneS sR (by decide)) (And.intro (isP_B (nrm [sclP dv.1 P])) (show (nB [R]).length ≤ 1000 by rw [nB_len]; exact Nat.le_of_ble_eq_true rfl))) ?_
            repeat first | refine And.intro rfl ?_ | refine And.intro True.intro ?_ | refine Or.inl (And.intro rfl ?_) | refine Or.inr (And.intro rfl ?_) | refine And.intro (fun (_ : true = true) => ?_) (fun (h : true = false) => Bool.noConfusion h) | refine And.intro (fun (h : false = true) => Bool.noConfusion h) (fun (_ : false = false) => ?_)
            refine Or.inl (And.intro (same_nB (L := [R]) (M := [sclP dv.1 P]) (by rw [hR])) ?_)
            repeat first | refine And.intro rfl ?_ | refine And.intro True.intro ?_ | refine Or.inl (And.intro rfl ?_) | refine Or.inr (And.intro rfl ?_) | refine And.intro (fun (_ : true = true) => ?_) (fun (h : true = false) => Bool.noConfusion h) | refine And.intro (fun (h : false = true) => Bool.noConfusion h) (fun (_ : false = false) => ?_)
            rfl
  · cases h

end Go.Gm

