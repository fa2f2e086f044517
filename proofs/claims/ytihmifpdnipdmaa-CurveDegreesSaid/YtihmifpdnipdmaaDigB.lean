/-
  Long division, plain, part B: no program in sight.
-/
import Derived.Test.YtihmifpdnipdmaaNatR
set_option linter.all false
namespace Go.Gm

theorem gAC (a u c : List Nat) {lo j : Nat} (ha : a.length = lo) (hj : j < u.length) : (a ++ u ++ c).getD (lo + j) 0 = u.getD j 0 := by
  subst ha
  simp only [List.getD_eq_getElem?_getD, List.append_assoc]
  rw [List.getElem?_append_right (by omega), Nat.add_sub_cancel_left, List.getElem?_append_left hj]
theorem sAC (a u c : List Nat) {lo j x : Nat} (ha : a.length = lo) (hj : j < u.length) : (a ++ u ++ c).set (lo + j) x = a ++ u.set j x ++ c := by
  subst ha
  rw [List.append_assoc, List.set_append_right _ _ (by omega), Nat.add_sub_cancel_left, List.set_append_left _ _ hj, List.append_assoc]

section
variable {P U V lu lv u2 v2 top high q r : Nat}
theorem dig_start (hU : U = lu + P * (u2 + B * top)) (hV : V = lv + P * (v2 + B * high)) (hlu : lu < P) (hu2 : u2 < B) (ht : top < (q + 1) * high) : U < (q + 1) * V := by
  have h1 : P * (u2 + 1) ≤ P * B := Nat.mul_le_mul_left _ hu2
  have h2 : U < P * B * (top + 1) := by
    rw [hU]
    have e1 : P * (u2 + B * top) = P * u2 + P * B * top := by rw [Nat.mul_add, Nat.mul_assoc]
    have e2 : P * B * (top + 1) = P * B * top + P * B := by rw [Nat.mul_add, Nat.mul_one]
    rw [Nat.mul_add, Nat.mul_one] at h1
    omega
  have h3 : P * B * (top + 1) ≤ P * B * ((q + 1) * high) := Nat.mul_le_mul_left _ ht
  have h4 : P * B * ((q + 1) * high) ≤ (q + 1) * V := by
    have : P * B * high ≤ V := by rw [hV, Nat.mul_add, Nat.mul_assoc]; omega
    have := Nat.mul_le_mul_left (q + 1) this
    rwa [Nat.mul_left_comm] at this
  omega

theorem dig_low (ht : top = q * high + r) (htop : top < B * (high + 1)) (hr : B ≤ r) : q < B := by
  have h1 : q * high < B * high := by rw [Nat.mul_add, Nat.mul_one] at htop; omega
  exact Nat.lt_of_mul_lt_mul_right h1
end

/-- The guess was too great by one: what the addition gives. -/
theorem dig_back {W T U V q x c N : Nat} (hN : N < W) (hV : V ≤ W) (h1 : U < q * V) (h2 : q * V < U + V) (hu : T + q * V = U + W * B) (hw : N + W * (x + c) = T + V) (hx : x + c ≤ B + B) : (x + c) % B = 0 ∧ N = U % V ∧ q - 1 = U / V := by
  have hV0 : 0 < V := by
    rcases Nat.eq_zero_or_pos V with e | e
    · subst e; simp at h1
    · exact e
  obtain ⟨p, rfl⟩ : ∃ p, q = p + 1 := ⟨q - 1, by
    rcases Nat.eq_zero_or_pos q with e | e
    · subst e; simp at h1
    · omega⟩
  rw [Nat.add_mul, Nat.one_mul] at h1 h2 hu
  obtain ⟨r, hr⟩ : ∃ r, U = p * V + r := ⟨U - p * V, by omega⟩
  have hrV : r < V := by omega
  have h3 : N + W * (x + c) = r + W * B := by omega
  have hW : 0 < W := by omega
  have h4 : x + c = B := by
    have := congrArg (fun z => z / W) h3
    simp only [Nat.add_mul_div_left _ _ hW, Nat.div_eq_of_lt hN, Nat.div_eq_of_lt (show r < W by omega)] at this
    omega
  rw [h4] at h3 ⊢
  refine ⟨Nat.mod_self _, ?_, ?_⟩
  · rw [hr, Nat.mul_comm, Nat.mul_add_mod, Nat.mod_eq_of_lt hrV]
    omega
  · rw [hr, Nat.mul_comm, Nat.mul_add_div hV0, Nat.div_eq_of_lt hrV]
    omega

theorem nv_top (l : List Nat) (k : Nat) (hl : l.length = k + 1) : nv l = nv (l.take k) + B ^ k * l.getD k 0 := by
  have := nv_take_getD' l k
  rwa [List.take_of_length_le (by omega)] at this
theorem nv_setTop (l : List Nat) (k x : Nat) (hl : l.length = k + 1) : nv (l.set k x) = nv (l.take k) + B ^ k * x := by
  rw [nv_top (l.set k x) k (by rw [List.length_set]; exact hl), List.take_set_of_le (Nat.le_refl k)]
  congr 2
  simp [List.getD_eq_getElem?_getD, List.getElem?_set_self (show k < l.length by omega)]
theorem getD_of_drop {l l' : List Nat} {i : Nat} (h : l.drop i = l'.drop i) : l.getD i 0 = l'.getD i 0 := by
  have := congrArg (fun z => z.getD 0 0) h
  simpa [List.getD_eq_getElem?_getD] using this
theorem take_len {l : List Nat} {k : Nat} (h : Lim l) (hk : k ≤ l.length) : nv (l.take k) < B ^ k := by
  have := nv_lt (h.take k)
  rwa [List.length_take, Nat.min_eq_left hk] at this
/-- What the subtraction leaves, where it goes through. -/
theorem dig_fin {W A C U V q un s x : Nat} (hinv : A + q * V = C + W * s) (hU : U = C + W * un) (hx : x + s = un) : A + W * x + q * V = U := by
  subst hx
  rw [Nat.mul_add] at hU
  omega
/-- And where it does not. -/
theorem dig_neg {W A C U V q un s x : Nat} (hA : A < W) (hinv : A + q * V = C + W * s) (hU : U = C + W * un) (hx : x + s = un + B) (hs : un < s) : U < q * V ∧ A + W * x + q * V = U + W * B := by
  constructor
  · have : W * (un + 1) ≤ W * s := Nat.mul_le_mul_left _ hs
    rw [Nat.mul_add, Nat.mul_one] at this
    omega
  · have : W * (x + s) = W * (un + B) := by rw [hx]
    rw [Nat.mul_add, Nat.mul_add] at this
    omega

end Go.Gm
