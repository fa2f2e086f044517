/-
  Long division, plain, part C: the whole of it. No program in sight.
-/
import Derived.Test.YtihmifpdnipdmaaDigB
set_option linter.all false
namespace Go.Gm

theorem lk_drop : ∀ (m k R : Nat), (lk m R).drop k = lk (m - k) (R / B ^ k)
  | m, 0, R => by simp
  | 0, k + 1, R => by simp [lk]
  | m + 1, k + 1, R => by
    show (lk m (R / B)).drop k = _
    rw [lk_drop m k, Nat.div_div_eq_div_mul, ← Nat.pow_succ', Nat.add_sub_add_right]
theorem lk_take : ∀ (m k R : Nat), k ≤ m → (lk m R).take k = lk k R
  | m, 0, R, _ => by simp [lk]
  | m + 1, k + 1, R, h => by
    show R % B :: (lk m (R / B)).take k = R % B :: lk k (R / B)
    rw [lk_take m k _ (by omega)]
theorem nv_lk_mod : ∀ (k n : Nat), nv (lk k n) = n % B ^ k
  | 0, n => by simp [lk, nv, Nat.mod_one]
  | k + 1, n => by
    show n % B + B * nv (lk k (n / B)) = _
    rw [nv_lk_mod k, Nat.pow_succ', Nat.mod_mul]

/-- One digit of the quotient. -/
theorem long_step {M N k R Y : Nat} (hR : R < Y * B ^ (k + 1)) (hY : Y < B ^ N) (hk : k + N ≤ M) :
    nv (((lk (M + 1) R).drop k).take (N + 1)) = R / B ^ k ∧ R / B ^ k < B * Y ∧ R / B ^ k / Y < B ∧
    (lk (M + 1) R).take k ++ lk (N + 1) (R / B ^ k % Y) ++ (lk (M + 1) R).drop (k + (N + 1)) = lk (M + 1) (R % B ^ k + B ^ k * (R / B ^ k % Y)) ∧
    R % B ^ k + B ^ k * (R / B ^ k % Y) < Y * B ^ k ∧
    R = R / B ^ k / Y * B ^ k * Y + (R % B ^ k + B ^ k * (R / B ^ k % Y)) := by
  have hW : 0 < B ^ k := Nat.pow_pos B_pos
  have hU : R / B ^ k < B * Y := by
    rw [Nat.div_lt_iff_lt_mul hW]
    calc R < Y * B ^ (k + 1) := hR
      _ = B * Y * B ^ k := by rw [Nat.pow_succ, Nat.mul_comm (B ^ k) B, ← Nat.mul_assoc, Nat.mul_comm Y B]
  have hY0 : 0 < Y := by
    rcases Nat.eq_zero_or_pos Y with e | e
    · subst e; simp at hU
    · exact e
  have hUN : R / B ^ k < B ^ (N + 1) := by
    rw [Nat.pow_succ']
    exact Nat.lt_of_lt_of_le hU (Nat.mul_le_mul_left _ (Nat.le_of_lt hY))
  have hmod : R / B ^ k % Y < Y := Nat.mod_lt _ hY0
  refine ⟨?_, hU, ?_, ?_, ?_, ?_⟩
  · rw [lk_drop, lk_take _ _ _ (by omega), nv_lk_mod, Nat.mod_eq_of_lt hUN]
  · rw [Nat.div_lt_iff_lt_mul hY0]; exact hU
  · refine lk_of (((lk_lim _ _).take k).append (lk_lim _ _) |>.append ((lk_lim _ _).drop _)) ?_ ?_
    · simp [lk_len]; omega
    · have e0 : R / B ^ (k + (N + 1)) = 0 := by
        rw [Nat.pow_add, ← Nat.div_div_eq_div_mul]
        exact Nat.div_eq_of_lt hUN
      rw [lk_take _ _ _ (by omega), lk_drop, e0, nv_append, nv_append, nv_lk_mod, nv_lk_mod, nv_lk_mod, Nat.zero_mod, Nat.mul_zero, Nat.add_zero, lk_len]
      congr 2
      refine Nat.mod_eq_of_lt ?_
      rw [Nat.pow_succ']
      have := Nat.mul_le_mul_right (B ^ N) (show 1 ≤ B from B_pos)
      omega
  · have h1 : R % B ^ k < B ^ k := Nat.mod_lt _ hW
    have h2 : B ^ k * (R / B ^ k % Y + 1) ≤ B ^ k * Y := Nat.mul_le_mul_left _ hmod
    rw [Nat.mul_add, Nat.mul_one] at h2
    rw [Nat.mul_comm Y]
    omega
  · have h1 := Nat.div_add_mod R (B ^ k)
    have h2 := Nat.div_add_mod (R / B ^ k) Y
    have h3 : R / B ^ k / Y * B ^ k * Y = B ^ k * (Y * (R / B ^ k / Y)) := by
      rw [Nat.mul_comm (R / B ^ k / Y), Nat.mul_assoc, Nat.mul_comm Y]
    have h4 : B ^ k * (Y * (R / B ^ k / Y)) + B ^ k * (R / B ^ k % Y) = B ^ k * (R / B ^ k) := by rw [← Nat.mul_add, h2]
    omega

/-- The divisor, moved so that its highest bit is set. -/
theorem long_norm {d : List Nat} {n s : Nat} (hd : Lim d) (hn : d.length = n + 2) (h0 : 0 < d.getD (n + 1) 0) (hs : s = 32 - blen (d.getD (n + 1) 0)) :
    s < 32 ∧ nv d * 2 ^ s < B ^ (n + 2) ∧ 2147483648 ≤ (lk (n + 2) (nv d * 2 ^ s)).getD (n + 1) 0 := by
  have ht : d.getD (n + 1) 0 < 4294967296 := hd.getD (n + 1)
  have hy := nv_top d (n + 1) (by omega)
  have hlt := take_len hd (show n + 1 ≤ d.length by omega)
  have hble := blen_le ht
  obtain ⟨m, hm, h1, h2⟩ := blen_pos h0
  generalize d.getD (n + 1) 0 = t at *
  have hsm : m + 1 + s = 32 := by omega
  have hP : 0 < B ^ (n + 1) := Nat.pow_pos B_pos
  have hS : 0 < 2 ^ s := Nat.pos_of_ne_zero (by simp)
  have e1 : (t + 1) * 2 ^ s ≤ B := by
    have : (t + 1) * 2 ^ s ≤ 2 ^ (m + 1) * 2 ^ s := Nat.mul_le_mul_right _ h2
    rwa [← Nat.pow_add, hsm, show (2 : Nat) ^ 32 = B from rfl] at this
  have e2 : 2147483648 ≤ t * 2 ^ s := by
    have : 2 ^ m * 2 ^ s ≤ t * 2 ^ s := Nat.mul_le_mul_right _ h1
    rwa [← Nat.pow_add, show m + s = 31 by omega] at this
  have h3 : nv d * 2 ^ s < B ^ (n + 2) := by
    have h4 : nv d + 1 ≤ B ^ (n + 1) * (t + 1) := by rw [Nat.mul_add, Nat.mul_one]; omega
    have h5 : (nv d + 1) * 2 ^ s ≤ B ^ (n + 1) * (t + 1) * 2 ^ s := Nat.mul_le_mul_right _ h4
    have h6 : B ^ (n + 1) * ((t + 1) * 2 ^ s) ≤ B ^ (n + 1) * B := Nat.mul_le_mul_left _ e1
    rw [Nat.add_mul, Nat.one_mul, Nat.mul_assoc] at h5
    rw [Nat.pow_succ B (n + 1)]
    omega
  refine ⟨by omega, h3, ?_⟩
  rw [lk_snoc, getD_mid _ _ _ (lk_len _ _)]
  have h7 : 2147483648 ≤ nv d * 2 ^ s / B ^ (n + 1) := by
    rw [Nat.le_div_iff_mul_le hP]
    have h8 : t * 2 ^ s * B ^ (n + 1) ≤ nv d * 2 ^ s := by
      rw [hy, Nat.add_mul, Nat.mul_comm (t * 2 ^ s), ← Nat.mul_assoc]
      omega
    exact Nat.le_trans (Nat.mul_le_mul_right _ e2) h8
  have h9 : nv d * 2 ^ s / B ^ (n + 1) < B := by
    rw [Nat.div_lt_iff_lt_mul hP, ← Nat.pow_succ']
    exact h3
  rw [Nat.mod_eq_of_lt h9]
  exact h7

/-- The dividend, moved too, is not too great. -/
theorem long_init {x y M n s : Nat} (hx : x < B ^ M) (hs : s < 32) (ht : 2147483648 ≤ (lk (n + 2) (y * 2 ^ s)).getD (n + 1) 0) (hM : n + 2 ≤ M + 1) : x * 2 ^ s < y * 2 ^ s * B ^ (M + 1 - (n + 2)) := by
  rw [lk_snoc, getD_mid _ _ _ (lk_len _ _)] at ht
  have h1 : 2147483648 ≤ y * 2 ^ s / B ^ (n + 1) := Nat.le_trans ht (Nat.mod_le _ _)
  have h2 : 2147483648 * B ^ (n + 1) ≤ y * 2 ^ s := by
    rw [Nat.le_div_iff_mul_le (Nat.pow_pos B_pos)] at h1
    exact h1
  have h3 : (2 : Nat) ^ s ≤ 2 ^ 31 := Nat.pow_le_pow_right (by decide) (by omega)
  rw [show (2 : Nat) ^ 31 = 2147483648 from rfl] at h3
  have h4 : x * 2 ^ s < B ^ M * 2147483648 := Nat.lt_of_le_of_lt (Nat.mul_le_mul_left x h3) (Nat.mul_lt_mul_of_pos_right hx (by decide))
  have h5 : 2147483648 * B ^ (n + 1) * B ^ (M + 1 - (n + 2)) ≤ y * 2 ^ s * B ^ (M + 1 - (n + 2)) := Nat.mul_le_mul_right _ h2
  rw [Nat.mul_assoc, ← Nat.pow_add, show n + 1 + (M + 1 - (n + 2)) = M by omega] at h5
  rw [Nat.mul_comm (B ^ M)] at h4
  exact Nat.lt_of_lt_of_le h4 h5

/-- What is left at the end. -/
theorem long_end {x y s Q R : Nat} (hX : x * 2 ^ s = Q * B ^ 0 * (y * 2 ^ s) + R) (hR : R < y * 2 ^ s * B ^ 0) : Q = x / y ∧ R / 2 ^ s = x % y := by
  simp only [Nat.pow_zero, Nat.mul_one] at hX hR
  have hS : 0 < 2 ^ s := Nat.pos_of_ne_zero (by simp)
  have hy : 0 < y := by
    rcases Nat.eq_zero_or_pos y with e | e
    · subst e; simp at hR
    · exact e
  have h1 : Q * y * 2 ^ s ≤ x * 2 ^ s := by rw [hX, Nat.mul_assoc]; omega
  have h2 : Q * y ≤ x := Nat.le_of_mul_le_mul_right h1 hS
  obtain ⟨d, rfl⟩ := Nat.exists_eq_add_of_le h2
  have h3 : R = d * 2 ^ s := by rw [Nat.add_mul, Nat.mul_assoc] at hX; omega
  subst h3
  have h4 : d < y := Nat.lt_of_mul_lt_mul_right hR
  exact ⟨by rw [Nat.mul_comm, Nat.mul_add_div hy, Nat.div_eq_of_lt h4, Nat.add_zero], by rw [Nat.mul_div_cancel _ hS, Nat.mul_comm, Nat.mul_add_mod, Nat.mod_eq_of_lt h4]⟩

/-- The first limb of the row that the quotient's step changes, and the whole. -/
theorem long_next {X Y R k Q D R' : Nat} (h : X = Q * B ^ (k + 1) * Y + R) (h2 : R = D * B ^ k * Y + R') : X = (D + B * Q) * B ^ k * Y + R' := by
  rw [h, h2, Nat.add_mul, Nat.add_mul, Nat.pow_succ]
  have : Q * (B ^ k * B) * Y = B * Q * B ^ k * Y := by
    rw [Nat.mul_comm (B ^ k) B, ← Nat.mul_assoc, Nat.mul_comm Q B]
  omega

end Go.Gm
