/-
  The reference's natural numbers, plain: no program in sight.
-/
import Derived.Test.YtihmifpdnipdmaaDigC
set_option linter.all false
namespace Go.Gm

theorem nv_cut (l : List Nat) (k : Nat) : nv l = nv (l.take k) + B ^ k * nv (l.drop k) := by
  rcases Nat.lt_or_ge k l.length with h | h
  · exact nv_take_drop l k (by omega)
  · rw [List.take_of_length_le h, List.drop_of_length_le h]
    simp [nv]
theorem nv_take_lt {l : List Nat} (h : Lim l) (k : Nat) : nv (l.take k) < B ^ k := by
  refine Nat.lt_of_lt_of_le (nv_lt (h.take k)) (Nat.pow_le_pow_right B_pos ?_)
  rw [List.length_take]
  omega
theorem nv_drop_cons (l : List Nat) (k : Nat) : nv (l.drop k) = l.getD k 0 + B * nv (l.drop (k + 1)) := by
  rcases Nat.lt_or_ge k l.length with h | h
  · rw [List.drop_eq_getElem_cons h, List.getD_eq_getElem?_getD, List.getElem?_eq_getElem h]
    rfl
  · rw [List.drop_of_length_le h, List.drop_of_length_le (by omega), getD_end _ _ h]
    rfl
/-- The highest limb that differs decides. -/
theorem lt_limb {a b : List Nat} (ha : Lim a) {k : Nat} (he : nv (a.drop (k + 1)) = nv (b.drop (k + 1))) (h : a.getD k 0 < b.getD k 0) : nv a < nv b := by
  have h1 := nv_cut a k
  have h2 := nv_cut b k
  have h3 := nv_take_lt ha k
  rw [nv_drop_cons, he] at h1
  rw [nv_drop_cons] at h2
  generalize nv (b.drop (k + 1)) = z at *
  have h4 : B ^ k * (a.getD k 0 + B * z + 1) ≤ B ^ k * (b.getD k 0 + B * z) := Nat.mul_le_mul_left _ (by omega)
  rw [Nat.mul_add, Nat.mul_one] at h4
  omega

/-! Bits. -/
theorem blen_half {t : Nat} (h : 0 < t) : blen t = blen (t / 2) + 1 := by
  obtain ⟨m, e, h1, h2⟩ := blen_pos h
  rw [e]
  cases m with
  | zero =>
    have : t = 1 := by simp at h1 h2; omega
    subst this
    rfl
  | succ m =>
    have h3 : 2 ^ m ≤ t / 2 := by rw [Nat.pow_succ] at h1; omega
    have h4 : t / 2 < 2 ^ (m + 1) := by rw [Nat.pow_succ] at h2; omega
    rw [blen_of h3 h4]
theorem blen_lt (x : Nat) : x < 2 ^ blen x := by
  rcases Nat.eq_zero_or_pos x with e | e
  · subst e; decide
  · obtain ⟨m, e, _, h2⟩ := blen_pos e
    rw [e]; exact h2
theorem blen_ge {x : Nat} (h : 0 < x) : 2 ^ blen x ≤ 2 * x := by
  obtain ⟨m, e, h1, _⟩ := blen_pos h
  rw [e, Nat.pow_succ]
  omega
theorem blen_zero {x : Nat} : blen x = 0 ↔ x = 0 := by
  constructor
  · intro h
    rcases Nat.eq_zero_or_pos x with e | e
    · exact e
    · obtain ⟨m, e, _⟩ := blen_pos e
      omega
  · intro h; subst h; rfl
theorem pow32 (n : Nat) : (2 : Nat) ^ (32 * n) = B ^ n := by rw [Nat.pow_mul]; rfl
theorem dg_top {x n : Nat} (hl : (dg x).length = n + 1) : x / B ^ n = (dg x).getD n 0 ∧ 0 < (dg x).getD n 0 := by
  have h1 := nv_div_pow (dg x) n (dg_lim x)
  rw [nv_dg] at h1
  have h2 : (dg x).drop n = [(dg x).getD n 0] := by
    rw [List.drop_eq_getElem_cons (by omega), List.drop_of_length_le (by omega), List.getD_eq_getElem?_getD, List.getElem?_eq_getElem (by omega)]
    rfl
  rw [h2] at h1
  have h3 : x / B ^ n = (dg x).getD n 0 := by rw [h1]; simp [nv]
  refine ⟨h3, ?_⟩
  rcases Nat.eq_zero_or_pos ((dg x).getD n 0) with e | e
  · exfalso
    rw [e] at h3
    have : x < B ^ n := by
      rcases Nat.lt_or_ge x (B ^ n) with h | h
      · exact h
      · have := Nat.div_pos h (Nat.pow_pos B_pos)
        omega
    have := dg_len_of_lt x n this
    omega
  · exact e
theorem blen_dg {x n : Nat} (hl : (dg x).length = n + 1) : blen x = 32 * n + blen ((dg x).getD n 0) := by
  obtain ⟨h1, h2⟩ := dg_top hl
  have hx : 2 ^ (32 * n) ≤ x := by
    rw [pow32]
    rcases Nat.lt_or_ge x (B ^ n) with h | h
    · rw [Nat.div_eq_of_lt h] at h1; omega
    · exact h
  rw [blen_shift hx, pow32, h1]

/-! Shift. -/
theorem shift_step {out l : List Nat} {i c r t : Nat} (ho : out.length = i) (hinv : nv out + B ^ i * c = nv (l.take i) * 2 ^ r) (ht : t = l.getD i 0 * 2 ^ r + c) :
    nv (out ++ [t % B]) + B ^ (i + 1) * (t / B) = nv (l.take (i + 1)) * 2 ^ r := by
  rw [nv_snoc, ho, nv_take_getD', Nat.add_mul, ← hinv, Nat.pow_succ]
  have e := Nat.mod_add_div t B
  have e1 : B ^ i * l.getD i 0 * 2 ^ r + B ^ i * c = B ^ i * t := by rw [ht, Nat.mul_add, Nat.mul_assoc]
  have e2 : B ^ i * (t % B) + B ^ i * B * (t / B) = B ^ i * t := by
    conv => rhs; rw [← e]
    rw [Nat.mul_add, Nat.mul_assoc]
  omega
theorem shift_carry {x r c t : Nat} (hx : x < B) (hc : c < 2 ^ r) (ht : t = x * 2 ^ r + c) : t / B < 2 ^ r := by
  rw [Nat.div_lt_iff_lt_mul B_pos, ht]
  have : (x + 1) * 2 ^ r ≤ B * 2 ^ r := Nat.mul_le_mul_right _ hx
  rw [Nat.add_mul, Nat.one_mul] at this
  rw [Nat.mul_comm (2 ^ r)]
  omega
theorem shift_all (x n : Nat) : B ^ (n / 32) * (x * 2 ^ (n % 32)) = x * 2 ^ n := by
  rw [← pow32, Nat.mul_left_comm, ← Nat.pow_add, Nat.div_add_mod]

/-! Half. -/
theorem half_step {out l : List Nat} {i : Nat} (ho : out.length = i) (hinv : 2 * nv out + nv l % 2 = nv (l.take i) + B ^ i * (l.getD i 0 % 2)) :
    2 * nv (out ++ [l.getD i 0 / 2 + l.getD (i + 1) 0 % 2 * 2147483648]) + nv l % 2 = nv (l.take (i + 1)) + B ^ (i + 1) * (l.getD (i + 1) 0 % 2) := by
  rw [nv_snoc, ho, nv_take_getD', Nat.pow_succ, B_eq]
  rw [B_eq] at hinv
  generalize nv l % 2 = p at *
  generalize l.getD (i + 1) 0 % 2 = y at *
  have e1 := Nat.mod_add_div (l.getD i 0) 2
  generalize l.getD i 0 % 2 = m at *
  generalize l.getD i 0 / 2 = q at *
  rw [← e1]
  generalize 4294967296 ^ i = W at *
  have e2 : W * (m + 2 * q) = W * m + 2 * (W * q) := by rw [Nat.mul_add, Nat.mul_left_comm]
  have e3 : W * (q + y * 2147483648) = W * q + 2147483648 * (W * y) := by rw [Nat.mul_add, ← Nat.mul_assoc, Nat.mul_comm (W * y)]
  have e4 : W * 4294967296 * y = 4294967296 * (W * y) := by rw [Nat.mul_comm W, Nat.mul_assoc]
  rw [e2, e3, e4]
  omega
theorem nv_odd (l : List Nat) : nv l % 2 = l.getD 0 0 % 2 := by
  cases l with
  | nil => rfl
  | cons x l =>
    show (x + B * nv l) % 2 = x % 2
    rw [B_eq]
    omega
theorem half_lt {x y : Nat} (hx : x < 4294967296) : x / 2 + y % 2 * 2147483648 < 4294967296 := by omega

/-! Division by shifts. -/
theorem div_start {x y n : Nat} (hy : 0 < y) (h : blen x = n + blen y) : x < y * 2 ^ (n + 1) := by
  have h1 := blen_lt x
  have h2 := blen_ge hy
  rw [h, Nat.pow_add] at h1
  have h3 : 2 ^ n * 2 ^ blen y ≤ 2 ^ n * (2 * y) := Nat.mul_le_mul_left _ h2
  have h4 : y * 2 ^ (n + 1) = 2 ^ n * (2 * y) := by rw [Nat.pow_succ, Nat.mul_comm y, Nat.mul_assoc]
  omega
theorem div_less {x y : Nat} (h : blen x < blen y) : x < y := by
  have h1 := blen_lt x
  have hy : 0 < y := by
    rcases Nat.eq_zero_or_pos y with e | e
    · subst e; rw [show blen 0 = 0 from rfl] at h; omega
    · exact e
  obtain ⟨m, e, h2, _⟩ := blen_pos hy
  have h3 : 2 ^ blen x ≤ 2 ^ m := Nat.pow_le_pow_right (by decide) (by omega)
  omega
theorem half_pow (y k : Nat) : y * 2 ^ (k + 1) / 2 = y * 2 ^ k := by
  rw [Nat.pow_succ, ← Nat.mul_assoc, Nat.mul_div_cancel _ (by decide)]
theorem div_yes {x y V r k : Nat} (hx : x = V * y + r) (h : y * 2 ^ k ≤ r) (hr : r < y * 2 ^ (k + 1)) : x = (V + 2 ^ k) * y + (r - y * 2 ^ k) ∧ r - y * 2 ^ k < y * 2 ^ k := by
  have e : (V + 2 ^ k) * y = V * y + y * 2 ^ k := by rw [Nat.add_mul, Nat.mul_comm (2 ^ k)]
  have e2 : y * 2 ^ (k + 1) = y * 2 ^ k + y * 2 ^ k := by rw [Nat.pow_succ, ← Nat.mul_assoc, Nat.mul_comm (y * 2 ^ k) 2]; omega
  omega
theorem div_done {x y V r : Nat} (hx : x = V * y + r) (hr : r < y * 2 ^ 0) : V = x / y ∧ r = x % y := by
  have hr : r < y := by simpa using hr
  have hy : 0 < y := by omega
  rw [hx]
  exact ⟨by rw [Nat.mul_comm, Nat.mul_add_div hy, Nat.div_eq_of_lt hr, Nat.add_zero], by rw [Nat.mul_comm, Nat.mul_add_mod, Nat.mod_eq_of_lt hr]⟩

/-- One bit set in a row of limbs: it was not set, and no bit below it. -/
theorem bit_set {m V k : Nat} (hV : V < B ^ m) (hd : 2 ^ (k + 1) ∣ V) (hk : k / 32 < m) :
    (lk m V).getD (k / 32) 0 + 2 ^ (k % 32) < B ∧ (lk m V).set (k / 32) ((lk m V).getD (k / 32) 0 + 2 ^ (k % 32)) = lk m (V + 2 ^ k) := by
  have hj : k / 32 < (lk m V).length := by rw [lk_len]; exact hk
  have hlt : (lk m V).getD (k / 32) 0 < B := (lk_lim m V).getD _
  have hval : (lk m V).getD (k / 32) 0 = V / B ^ (k / 32) % B := by
    have h1 := nv_div_pow (lk m V) (k / 32) (lk_lim m V)
    rw [nv_lk m V hV, nv_drop_cons] at h1
    rw [h1, Nat.add_mul_mod_self_left, Nat.mod_eq_of_lt hlt]
  have hr : k % 32 < 32 := Nat.mod_lt _ (by decide)
  -- the limb is a multiple of twice the bit
  have hdiv : 2 ^ (k % 32 + 1) ∣ (lk m V).getD (k / 32) 0 := by
    obtain ⟨q, hq⟩ := hd
    have e1 : V = B ^ (k / 32) * (2 ^ (k % 32 + 1) * q) := by
      rw [hq, ← pow32, ← Nat.mul_assoc, ← Nat.pow_add, show 32 * (k / 32) + (k % 32 + 1) = k + 1 by omega]
    rw [hval, e1, Nat.mul_div_cancel_left _ (Nat.pow_pos B_pos)]
    have e2 : B = 2 ^ (k % 32 + 1) * 2 ^ (31 - k % 32) := by
      rw [← Nat.pow_add, show k % 32 + 1 + (31 - k % 32) = 32 by omega]
      rfl
    rw [e2, Nat.mul_mod_mul_left]
    exact ⟨_, rfl⟩
  have hno : (lk m V).getD (k / 32) 0 + 2 ^ (k % 32) < B := by
    obtain ⟨q, hq⟩ := hdiv
    have e2 : B = 2 ^ (k % 32 + 1) * 2 ^ (31 - k % 32) := by
      rw [← Nat.pow_add, show k % 32 + 1 + (31 - k % 32) = 32 by omega]
      rfl
    rw [hq] at hlt ⊢
    rw [e2] at hlt ⊢
    have h1 : q < 2 ^ (31 - k % 32) := Nat.lt_of_mul_lt_mul_left hlt
    have h2 : 2 ^ (k % 32 + 1) * (q + 1) ≤ 2 ^ (k % 32 + 1) * 2 ^ (31 - k % 32) := Nat.mul_le_mul_left _ h1
    rw [Nat.mul_add, Nat.mul_one] at h2
    have h3 : 2 ^ (k % 32) < 2 ^ (k % 32 + 1) := (Nat.pow_lt_pow_iff_right (by decide)).2 (by omega)
    omega
  refine ⟨hno, lk_of ((lk_lim m V).set _ hno) (by rw [List.length_set, lk_len]) ?_⟩
  have h1 := nv_set (lk m V) (k / 32) ((lk m V).getD (k / 32) 0 + 2 ^ (k % 32)) hj
  rw [nv_lk m V hV, Nat.mul_add] at h1
  have e : B ^ (k / 32) * 2 ^ (k % 32) = 2 ^ k := by rw [← pow32, ← Nat.pow_add, Nat.div_add_mod]
  omega

end Go.Gm
