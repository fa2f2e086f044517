/-
  How long the terms of ratios get. Plain theorems; no condition.
-/
import Derived.Test.YtihmifpdnipdmaaRatB
set_option linter.all false
namespace Go.Gm

/-- A ratio whose terms have at most n limbs. -/
def Sz (n : Nat) (q : Rat) : Prop := q.num.natAbs < B ^ n ∧ q.den < B ^ n

theorem pow_le {n m : Nat} (h : n ≤ m) : B ^ n ≤ B ^ m := Nat.pow_le_pow_right B_pos h
theorem Sz.mono {n m : Nat} {q : Rat} (h : Sz n q) (hm : n ≤ m) : Sz m q := ⟨Nat.lt_of_lt_of_le h.1 (pow_le hm), Nat.lt_of_lt_of_le h.2 (pow_le hm)⟩

theorem sg_self (a : Int) : sg (decide (a < 0)) a.natAbs = a := by
  have := sg_CI a
  rwa [nv_dg] at this

theorem Sz.mk {a : Int} {b n : Nat} (ha : a.natAbs < B ^ n) (hb : b < B ^ n) (hn : 0 < n) : Sz n (mkRat a b) := by
  rcases Nat.eq_zero_or_pos b with h | h
  · subst h
    have e : mkRat a 0 = 0 := by simp [mkRat]
    rw [e]
    refine ⟨?_, ?_⟩
    · exact Nat.pow_pos B_pos
    · show 1 < B ^ n
      have : B ^ 1 ≤ B ^ n := pow_le hn
      rw [Nat.pow_one] at this
      have := B_eq
      omega
  · have e := cq_mk (decide (a < 0)) a.natAbs b h
    rw [sg_self] at e
    have e1 := congrArg (fun l => l.getD 1 .any) e
    have e2 := congrArg (fun l => l.getD 2 .any) e
    simp only [List.getD_cons_succ, List.getD_cons_zero, CV.b.injEq, BV.nat.injEq] at e1 e2
    have d1 := dg_inj e1
    have d2 := dg_inj e2
    exact ⟨by rw [d1]; exact Nat.lt_of_le_of_lt (Nat.div_le_self _ _) ha, by rw [d2]; exact Nat.lt_of_le_of_lt (Nat.div_le_self _ _) hb⟩

theorem Sz.neg {n : Nat} {q : Rat} (h : Sz n q) : Sz n (-q) := ⟨by rw [Rat.neg_num, Int.natAbs_neg]; exact h.1, by rw [Rat.neg_den]; exact h.2⟩
theorem Sz.mul {n m : Nat} {p q : Rat} (h : Sz n p) (k : Sz m q) : Sz (n + m + 1) (p * q) := by
  rw [Rat.mul_def']
  have e : B ^ (n + m) ≤ B ^ (n + m + 1) := pow_le (by omega)
  refine Sz.mk ?_ ?_ (by omega)
  · rw [Int.natAbs_mul]
    have := Nat.mul_lt_mul'' h.1 k.1
    rw [← Nat.pow_add] at this
    omega
  · have := Nat.mul_lt_mul'' h.2 k.2
    rw [← Nat.pow_add] at this
    omega
theorem Sz.add {n m : Nat} {p q : Rat} (h : Sz n p) (k : Sz m q) : Sz (n + m + 1) (p + q) := by
  rw [Rat.add_def']
  have e : 2 * B ^ (n + m) ≤ B ^ (n + m + 1) := by rw [Nat.pow_succ, Nat.mul_comm]; exact Nat.mul_le_mul_left _ (by decide)
  refine Sz.mk ?_ ?_ (by omega)
  · have h1 := Int.natAbs_add_le (p.num * q.den) (q.num * p.den)
    have h2 : (p.num * (q.den : Int)).natAbs < B ^ (n + m) := by
      rw [Int.natAbs_mul, Nat.pow_add]; exact Nat.mul_lt_mul'' h.1 (by simpa using k.2)
    have h3 : (q.num * (p.den : Int)).natAbs < B ^ (n + m) := by
      rw [Int.natAbs_mul, Nat.add_comm n m, Nat.pow_add]; exact Nat.mul_lt_mul'' k.1 (by simpa using h.2)
    omega
  · have := Nat.mul_lt_mul'' h.2 k.2
    rw [← Nat.pow_add] at this
    omega
theorem Sz.sub {n m : Nat} {p q : Rat} (h : Sz n p) (k : Sz m q) : Sz (n + m + 1) (p - q) := by
  rw [Rat.sub_eq_add_neg]
  exact h.add k.neg
theorem Sz.inv {n : Nat} {q : Rat} (h : Sz n q) : Sz (n + 1) (q⁻¹) := by
  have hp : B ^ n ≤ B ^ (n + 1) := pow_le (by omega)
  have h1 : B ^ 1 ≤ B ^ (n + 1) := pow_le (by omega)
  rw [Nat.pow_one] at h1
  have hB := B_eq
  refine ⟨?_, ?_⟩
  · rw [Rat.num_inv, Int.natAbs_mul]
    have : q.num.sign.natAbs ≤ 1 := by
      rcases Int.lt_trichotomy q.num 0 with h0 | h0 | h0
      · rw [Int.sign_eq_neg_one_of_neg h0]; decide
      · rw [h0]; decide
      · rw [Int.sign_eq_one_of_pos h0]; decide
    have h2 : q.num.sign.natAbs * (q.den : Int).natAbs ≤ 1 * (q.den : Int).natAbs := Nat.mul_le_mul_right _ this
    have h3 := h.2
    simp only [Int.natAbs_natCast, Nat.one_mul] at h2 ⊢
    omega
  · rw [Rat.den_inv]
    have h3 := h.1
    split <;> omega
theorem Sz.div {n m : Nat} {p q : Rat} (h : Sz n p) (k : Sz m q) : Sz (n + m + 2) (p / q) := by
  rw [Rat.div_def]
  have := h.mul k.inv
  exact this.mono (by omega)
theorem Sz.lenN {n k : Nat} {q : Rat} (h : Sz n q) (hk : n ≤ k) : (dg q.num.natAbs).length ≤ k := Nat.le_trans (dg_len_of_lt _ _ h.1) hk
theorem Sz.lenD {n k : Nat} {q : Rat} (h : Sz n q) (hk : n ≤ k) : (dg q.den).length ≤ k := Nat.le_trans (dg_len_of_lt _ _ h.2) hk
theorem Sz.rq {n : Nat} {s : Bool} {l t : List Nat} (hl : Lim l) (ht : Lim t) (h1 : l.length ≤ n) (h2 : t.length ≤ n) : Sz (n + 1) (rq s l t) := by
  refine Sz.mk ?_ ?_ (by omega)
  · rw [sg_abs]; exact Nat.lt_of_lt_of_le (nv_lt hl) (pow_le (by omega))
  · exact Nat.lt_of_lt_of_le (nv_lt ht) (pow_le (by omega))

/-- How long the terms of a ratio are, found by its form. -/
class Szc (q : Rat) (n : outParam Nat) : Prop where
  sz : Sz n q
instance Szc.add {p q : Rat} {n m : Nat} [h : Szc p n] [k : Szc q m] : Szc (p + q) (n + m + 1) := ⟨h.sz.add k.sz⟩
instance Szc.sub {p q : Rat} {n m : Nat} [h : Szc p n] [k : Szc q m] : Szc (p - q) (n + m + 1) := ⟨h.sz.sub k.sz⟩
instance Szc.mul {p q : Rat} {n m : Nat} [h : Szc p n] [k : Szc q m] : Szc (p * q) (n + m + 1) := ⟨h.sz.mul k.sz⟩
instance Szc.div {p q : Rat} {n m : Nat} [h : Szc p n] [k : Szc q m] : Szc (p / q) (n + m + 2) := ⟨h.sz.div k.sz⟩
instance Szc.neg {q : Rat} {n : Nat} [h : Szc q n] : Szc (-q) n := ⟨h.sz.neg⟩

end Go.Gm
