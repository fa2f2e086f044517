/-
  Long division, plain: no program in sight.
-/
import Derived.Test.YtihmifpdnipdmaaNatX
set_option linter.all false
namespace Go.Gm

/-- Lists of limbs of the same length with the same value are the same. -/
theorem nv_inj : ∀ {a b : List Nat}, Lim a → Lim b → a.length = b.length → nv a = nv b → a = b
  | [], [], _, _, _, _ => rfl
  | x :: a, y :: b, ha, hb, hl, h => by
    simp only [nv] at h
    have hx := ha.head
    have hy := hb.head
    have h1 : x = y := by
      have := congrArg (fun z => z % B) h
      simp only [Nat.add_mul_mod_self_left, Nat.mod_eq_of_lt hx, Nat.mod_eq_of_lt hy] at this
      exact this
    subst h1
    have h2 : nv a = nv b := Nat.eq_of_mul_eq_mul_left B_pos (by omega)
    rw [nv_inj ha.tail hb.tail (by simpa using hl) h2]
  | [], _ :: _, _, _, hl, _ => by simp at hl
  | _ :: _, [], _, _, hl, _ => by simp at hl

/-- The lowest limbs of a number. -/
def lk : Nat → Nat → List Nat
  | 0, _ => []
  | k + 1, n => n % B :: lk k (n / B)
theorem lk_len : ∀ (k n : Nat), (lk k n).length = k
  | 0, _ => rfl
  | k + 1, n => by simp [lk, lk_len k]
theorem lk_lim : ∀ (k n : Nat), Lim (lk k n)
  | 0, _ => Lim.nil
  | k + 1, _ => Lim.cons (Nat.mod_lt _ B_pos) (lk_lim k _)
theorem nv_lk : ∀ (k n : Nat), n < B ^ k → nv (lk k n) = n
  | 0, n, h => by simp at h; subst h; rfl
  | k + 1, n, h => by
    have : n / B < B ^ k := by
      rw [Nat.div_lt_iff_lt_mul B_pos]; rwa [Nat.pow_succ] at h
    simp only [lk, nv]
    rw [nv_lk k _ this]
    exact Nat.mod_add_div n B
theorem lk_of {l : List Nat} {k n : Nat} (hl : Lim l) (hk : l.length = k) (hn : nv l = n) : l = lk k n := by
  have h1 := nv_lt hl
  rw [hk, hn] at h1
  exact nv_inj hl (lk_lim k n) (by rw [lk_len, hk]) (by rw [nv_lk k n h1, hn])

/-! The quotient's guess. -/
section
variable {P U V lu lv u2 v2 top high q r : Nat}

theorem dig_over2 (hU : U = lu + P * (u2 + B * top)) (hV : V = lv + P * (v2 + B * high)) (hlu : lu < P) (ht : top = q * high + r) (h : r * B + u2 < q * v2) : U < q * V := by
  subst hU hV ht
  have h1 : P * (r * B + u2 + 1) ≤ P * (q * v2) := Nat.mul_le_mul_left _ h
  have e1 : q * (lv + P * (v2 + B * high)) = q * lv + (P * (q * v2) + P * (B * (q * high))) := by
    simp only [Nat.mul_add, Nat.mul_left_comm, Nat.mul_comm]
  have e2 : P * (u2 + B * (q * high + r)) = P * u2 + (P * (B * (q * high)) + P * (r * B)) := by
    simp only [Nat.mul_add, Nat.mul_comm B r]
  have e3 : P * (r * B + u2 + 1) = P * (r * B) + P * u2 + P := by simp only [Nat.mul_add, Nat.mul_one]
  rw [e1, e2]
  rw [e3] at h1
  omega

theorem dig_over1 (hUV : U < B * V) (h : B ≤ q) : U < q * V := Nat.lt_of_lt_of_le hUV (Nat.mul_le_mul_right _ h)

theorem dig_top (hU : U = lu + P * (u2 + B * top)) (hV : V = lv + P * (v2 + B * high)) (hlv : lv < P) (hv2 : v2 < B) (hUV : U < B * V) : top < B * (high + 1) := by
  have h1 : P * (v2 + 1) ≤ P * B := Nat.mul_le_mul_left _ hv2
  have h2 : V < P * B * (high + 1) := by
    rw [hV]
    have e1 : P * (v2 + B * high) = P * v2 + P * B * high := by rw [Nat.mul_add, Nat.mul_assoc]
    have e2 : P * B * (high + 1) = P * B * high + P * B := by rw [Nat.mul_add, Nat.mul_one]
    have e3 : P * (v2 + 1) = P * v2 + P := by rw [Nat.mul_add, Nat.mul_one]
    rw [e1, e2]
    omega
  have h3 : P * B * top ≤ U := by
    rw [hU, Nat.mul_add, Nat.mul_assoc]
    omega
  have h4 : P * B * top < P * B * (B * (high + 1)) := by
    have h5 : B * V < B * (P * B * (high + 1)) := Nat.mul_lt_mul_of_pos_left h2 B_pos
    have e : B * (P * B * (high + 1)) = P * B * (B * (high + 1)) := by rw [Nat.mul_left_comm]
    omega
  exact Nat.lt_of_mul_lt_mul_left h4

theorem dig_exit (hU : U = lu + P * (u2 + B * top)) (hV : V = lv + P * (v2 + B * high)) (hlv : lv < P) (hv2 : v2 < B) (hh : 0 < high) (ht : top = q * high + r) (hq : q < B) (h : B ≤ r ∨ q * v2 ≤ r * B + u2) : q * V < U + V := by
  have hP : 0 < P := by omega
  have e1 : q * V = q * lv + (P * (q * v2) + P * (B * (q * high))) := by
    rw [hV]
    simp only [Nat.mul_add, Nat.mul_left_comm, Nat.mul_comm]
  have e2 : P * (u2 + B * top) = P * u2 + (P * (B * (q * high)) + P * (B * r)) := by
    rw [ht]
    simp only [Nat.mul_add]
  have hVpos : P * B ≤ V := by
    rw [hV, Nat.mul_add]
    have : P * (B * 1) ≤ P * (B * high) := Nat.mul_le_mul_left _ (Nat.mul_le_mul_left _ hh)
    rw [Nat.mul_one] at this
    omega
  have hPB : 0 < P * B := Nat.mul_pos hP B_pos
  rcases h with h | h
  · -- the guess is not too great
    have h1 : P * (v2 + 1) ≤ P * B := Nat.mul_le_mul_left _ hv2
    have h2 : lv + P * v2 ≤ P * B := by rw [Nat.mul_add, Nat.mul_one] at h1; omega
    have h3 : q * (lv + P * v2) ≤ B * (P * B) := Nat.mul_le_mul (Nat.le_of_lt hq) h2
    have h4 : P * (B * B) ≤ P * (B * r) := Nat.mul_le_mul_left _ (Nat.mul_le_mul_left _ h)
    have e3 : q * (lv + P * v2) = q * lv + P * (q * v2) := by rw [Nat.mul_add, Nat.mul_left_comm]
    have e4 : B * (P * B) = P * (B * B) := by rw [Nat.mul_left_comm]
    omega
  · have h1 : P * (q * v2) ≤ P * (r * B + u2) := Nat.mul_le_mul_left _ h
    rw [Nat.mul_add, Nat.mul_comm r B] at h1
    have h2 : q * lv < B * P := Nat.lt_of_le_of_lt (Nat.mul_le_mul_right _ (Nat.le_of_lt hq)) (Nat.mul_lt_mul_of_pos_left hlv B_pos)
    rw [Nat.mul_comm B P] at h2
    omega
end

/-- A number by its two highest limbs and the rest. -/
theorem nv_three (l : List Nat) (n : Nat) (hl : l.length = n + 3) : nv l = nv (l.take n) + B ^ n * (l.getD n 0 + B * (l.getD (n + 1) 0 + B * l.getD (n + 2) 0)) := by
  have e : l = l.take n ++ [l.getD n 0, l.getD (n + 1) 0, l.getD (n + 2) 0] := by
    conv => lhs; rw [← List.take_append_drop n l]
    congr 1
    apply List.ext_getElem?
    intro k
    rw [List.getElem?_drop]
    match k with
    | 0 => simp [List.getD_eq_getElem?_getD, List.getElem?_eq_getElem (show n < l.length by omega)]
    | 1 => simp [List.getD_eq_getElem?_getD, List.getElem?_eq_getElem (show n + 1 < l.length by omega)]
    | 2 => simp [List.getD_eq_getElem?_getD, List.getElem?_eq_getElem (show n + 2 < l.length by omega)]
    | k + 3 => rw [List.getElem?_eq_none (by omega), List.getElem?_eq_none (by simp)]
  conv => lhs; rw [e]
  rw [nv_append, List.length_take, Nat.min_eq_left (by omega)]
  simp [nv]

theorem nv_twoTop (l : List Nat) (n : Nat) (hl : l.length = n + 2) : nv l = nv (l.take n) + B ^ n * (l.getD n 0 + B * l.getD (n + 1) 0) := by
  have e : l = l.take n ++ [l.getD n 0, l.getD (n + 1) 0] := by
    conv => lhs; rw [← List.take_append_drop n l]
    congr 1
    apply List.ext_getElem?
    intro k
    rw [List.getElem?_drop]
    match k with
    | 0 => simp [List.getD_eq_getElem?_getD, List.getElem?_eq_getElem (show n < l.length by omega)]
    | 1 => simp [List.getD_eq_getElem?_getD, List.getElem?_eq_getElem (show n + 1 < l.length by omega)]
    | k + 2 => rw [List.getElem?_eq_none (by omega), List.getElem?_eq_none (by simp)]
  conv => lhs; rw [e]
  rw [nv_append, List.length_take, Nat.min_eq_left (by omega)]
  simp [nv]

theorem take_set_succ (l : List Nat) (i x : Nat) (hi : i < l.length) : (l.set i x).take (i + 1) = l.take i ++ [x] := by
  rw [List.take_succ_eq_append_getElem (by simpa using hi)]
  simp [List.take_set_of_le]

/-- One step of the subtraction of a multiple. -/
theorem dsub_step {u' u v : List Nat} {i q c b lo hi bw x : Nat} (hi' : i < u'.length) (hinv : nv (u'.take i) + q * nv (v.take i) = nv (u.take i) + B ^ i * (c + b)) (hc : c + q * v.getD i 0 = lo + B * hi) (hx : u.getD i 0 + B * bw = x + lo + b) :
    nv ((u'.set i x).take (i + 1)) + q * nv (v.take (i + 1)) = nv (u.take (i + 1)) + B ^ (i + 1) * (hi + bw) := by
  rw [take_set_succ u' i x hi', nv_snoc, List.length_take, Nat.min_eq_left (by omega), nv_take_getD', nv_take_getD', Nat.pow_succ]
  generalize u.getD i 0 = ui at *
  generalize v.getD i 0 = vi at *
  generalize nv (u'.take i) = A at *
  generalize nv (v.take i) = C at *
  generalize nv (u.take i) = D at *
  generalize B ^ i = W at *
  have e1 : W * (c + q * vi) = W * (lo + B * hi) := by rw [hc]
  have e2 : W * (ui + B * bw) = W * (x + lo + b) := by rw [hx]
  simp only [Nat.mul_add] at e1 e2 hinv ⊢
  have e3 : q * (W * vi) = W * (q * vi) := Nat.mul_left_comm ..
  have e4 : W * B * hi = W * (B * hi) := Nat.mul_assoc ..
  have e5 : W * B * bw = W * (B * bw) := Nat.mul_assoc ..
  rw [e3, e4, e5]
  omega

/-- One step of the addition. -/
theorem back_step {u' u v : List Nat} {i c lo hi : Nat} (hi' : i < u'.length) (hinv : nv (u'.take i) + B ^ i * c = nv (u.take i) + nv (v.take i)) (hc : c + (u.getD i 0 + v.getD i 0) = lo + B * hi) :
    nv ((u'.set i lo).take (i + 1)) + B ^ (i + 1) * hi = nv (u.take (i + 1)) + nv (v.take (i + 1)) := by
  rw [take_set_succ u' i lo hi', nv_snoc, List.length_take, Nat.min_eq_left (by omega), nv_take_getD', nv_take_getD', Nat.pow_succ]
  generalize u.getD i 0 = ui at *
  generalize v.getD i 0 = vi at *
  generalize nv (u'.take i) = A at *
  generalize nv (v.take i) = C at *
  generalize nv (u.take i) = D at *
  generalize B ^ i = W at *
  have e1 : W * (c + (ui + vi)) = W * (lo + B * hi) := by rw [hc]
  simp only [Nat.mul_add] at e1 hinv ⊢
  have e4 : W * B * hi = W * (B * hi) := Nat.mul_assoc ..
  rw [e4]
  omega

/-- The guess was right. -/
theorem dig_right {U V q R : Nat} (h1 : U < (q + 1) * V) (h : R + q * V = U) : q = U / V ∧ R = U % V := by
  have hR : R < V := by rw [Nat.add_mul, Nat.one_mul] at h1; omega
  have hV : 0 < V := by omega
  constructor
  · rw [← h, Nat.add_mul_div_right _ _ hV, Nat.div_eq_of_lt hR, Nat.zero_add]
  · rw [← h, Nat.add_mul_mod_self_right, Nat.mod_eq_of_lt hR]

end Go.Gm
