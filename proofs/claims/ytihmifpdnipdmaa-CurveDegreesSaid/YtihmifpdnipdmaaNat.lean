/-
  Plain mathematics of numbers that are lists of limbs. No program in sight.
-/
set_option linter.all false
namespace Go.Gm

/-- One more than the greatest limb. -/
def B : Nat := 4294967296
theorem B_eq : B = 4294967296 := rfl
theorem B_pos : 0 < B := by decide

/-- The value of a list of limbs, the lowest first. -/
def nv : List Nat → Nat
  | [] => 0
  | x :: l => x + B * nv l

/-- Every limb is below the base. -/
def Lim (l : List Nat) : Prop := ∀ x ∈ l, x < B

theorem Lim.nil : Lim [] := fun _ h => by cases h
theorem Lim.cons {x : Nat} {l : List Nat} (hx : x < B) (h : Lim l) : Lim (x :: l) := fun y hy => by
  rcases List.mem_cons.1 hy with rfl | hy
  · exact hx
  · exact h y hy
theorem Lim.head {x : Nat} {l : List Nat} (h : Lim (x :: l)) : x < B := h x (List.mem_cons_self ..)
theorem Lim.tail {x : Nat} {l : List Nat} (h : Lim (x :: l)) : Lim l := fun y hy => h y (List.mem_cons_of_mem _ hy)
theorem Lim.append {a b : List Nat} (ha : Lim a) (hb : Lim b) : Lim (a ++ b) := fun x hx => by
  rcases List.mem_append.1 hx with h | h
  · exact ha x h
  · exact hb x h
theorem Lim.left {a b : List Nat} (h : Lim (a ++ b)) : Lim a := fun x hx => h x (List.mem_append_left _ hx)
theorem Lim.right {a b : List Nat} (h : Lim (a ++ b)) : Lim b := fun x hx => h x (List.mem_append_right _ hx)
theorem Lim.take {l : List Nat} (h : Lim l) (k : Nat) : Lim (l.take k) := fun x hx => h x (List.mem_of_mem_take hx)
theorem Lim.drop {l : List Nat} (h : Lim l) (k : Nat) : Lim (l.drop k) := fun x hx => h x (List.mem_of_mem_drop hx)
theorem Lim.get {l : List Nat} (h : Lim l) (i : Nat) (hi : i < l.length) : l[i] < B := h _ (List.getElem_mem hi)
theorem Lim.getD {l : List Nat} (h : Lim l) (i : Nat) : l.getD i 0 < B := by
  by_cases hi : i < l.length
  · rw [List.getD_eq_getElem?_getD, List.getElem?_eq_getElem hi]; exact h.get i hi
  · rw [List.getD_eq_getElem?_getD, List.getElem?_eq_none (by omega)]; exact B_pos
theorem Lim.replicate (n : Nat) : Lim (List.replicate n 0) := fun x hx => by
  rw [(List.mem_replicate.1 hx).2]; exact B_pos
theorem Lim.set {l : List Nat} (h : Lim l) (i : Nat) {x : Nat} (hx : x < B) : Lim (l.set i x) := fun y hy => by
  rcases List.mem_or_eq_of_mem_set hy with hy | rfl
  · exact h y hy
  · exact hx

theorem nv_append (a b : List Nat) : nv (a ++ b) = nv a + B ^ a.length * nv b := by
  induction a with
  | nil => simp [nv]
  | cons x a ih =>
    simp only [List.cons_append, nv, ih, List.length_cons, Nat.pow_succ]
    rw [Nat.mul_add, ← Nat.mul_assoc, Nat.mul_comm B (B ^ a.length)]; omega

theorem nv_snoc (a : List Nat) (x : Nat) : nv (a ++ [x]) = nv a + B ^ a.length * x := by
  rw [nv_append]; simp [nv]

theorem nv_replicate (n : Nat) : nv (List.replicate n 0) = 0 := by
  induction n with
  | zero => rfl
  | succ n ih => simp [List.replicate_succ, nv, ih]

theorem nv_lt {l : List Nat} (h : Lim l) : nv l < B ^ l.length := by
  induction l with
  | nil => simp [nv]
  | cons x l ih =>
    have h1 := ih h.tail
    have h2 := h.head
    simp only [nv, List.length_cons, Nat.pow_succ]
    have h3 : B * (nv l + 1) ≤ B * B ^ l.length := Nat.mul_le_mul_left _ h1
    rw [Nat.mul_comm (B ^ l.length)]
    rw [Nat.mul_add] at h3; omega

theorem nv_take_drop (l : List Nat) (k : Nat) (hk : k ≤ l.length) : nv l = nv (l.take k) + B ^ k * nv (l.drop k) := by
  conv => lhs; rw [← List.take_append_drop k l]
  rw [nv_append, List.length_take, Nat.min_eq_left hk]

theorem take_succ_get (l : List Nat) (k : Nat) (hk : k < l.length) : l.take (k + 1) = l.take k ++ [l[k]] := by
  rw [List.take_succ_eq_append_getElem hk]

theorem nv_take_succ (l : List Nat) (k : Nat) (hk : k < l.length) : nv (l.take (k + 1)) = nv (l.take k) + B ^ k * l[k] := by
  rw [take_succ_get l k hk, nv_snoc, List.length_take, Nat.min_eq_left (by omega)]

/-- The limbs of a number, without high zeros. -/
def dgF : Nat → Nat → List Nat
  | 0, _ => []
  | f + 1, n => if n = 0 then [] else n % B :: dgF f (n / B)

def dg (n : Nat) : List Nat := dgF n n

theorem dgF_enough : ∀ (f g n : Nat), n ≤ f → n ≤ g → dgF f n = dgF g n
  | 0, 0, _, _, _ => rfl
  | 0, g + 1, n, h, _ => by have : n = 0 := by omega
                            subst this; simp [dgF]
  | f + 1, 0, n, _, h => by have : n = 0 := by omega
                            subst this; simp [dgF]
  | f + 1, g + 1, n, h1, h2 => by
    simp only [dgF]
    split
    · rfl
    · rename_i hn
      have hlt : n / B < n := Nat.div_lt_self (by omega) (by decide)
      rw [dgF_enough f g (n / B) (by omega) (by omega)]

theorem dg_zero : dg 0 = [] := rfl
theorem dg_pos (n : Nat) (h : 0 < n) : dg n = n % B :: dg (n / B) := by
  unfold dg
  obtain ⟨m, rfl⟩ : ∃ m, n = m + 1 := ⟨n - 1, by omega⟩
  simp only [dgF]
  rw [if_neg (by omega)]
  have hlt : (m + 1) / B < m + 1 := Nat.div_lt_self (by omega) (by decide)
  rw [dgF_enough m ((m + 1) / B) ((m + 1) / B) (by omega) (Nat.le_refl _)]

theorem nv_dg (n : Nat) : nv (dg n) = n := by
  induction n using Nat.strongRecOn with
  | _ n ih =>
    by_cases h : n = 0
    · subst h; rfl
    · rw [dg_pos n (by omega), nv, ih (n / B) (Nat.div_lt_self (by omega) (by decide))]
      exact Nat.mod_add_div n B

theorem dg_lim (n : Nat) : Lim (dg n) := by
  induction n using Nat.strongRecOn with
  | _ n ih =>
    by_cases h : n = 0
    · subst h; exact Lim.nil
    · rw [dg_pos n (by omega)]
      exact Lim.cons (Nat.mod_lt _ B_pos) (ih (n / B) (Nat.div_lt_self (by omega) (by decide)))

theorem dg_eq_nil {n : Nat} : dg n = [] ↔ n = 0 := by
  constructor
  · intro h; have := nv_dg n; rw [h] at this; exact this.symm
  · intro h; subst h; rfl

theorem nv_pos_of_top (l : List Nat) (x : Nat) (hx : x ≠ 0) : 0 < nv (l ++ [x]) := by
  rw [nv_snoc]
  have : 0 < B ^ l.length * x := Nat.mul_pos (Nat.pow_pos B_pos) (by omega)
  omega

/-- A list of limbs that has no zero at its end is the list of its number. -/
theorem dg_nv_of_top : ∀ (l : List Nat), Lim l → (∀ h : l ≠ [], l.getLast h ≠ 0) → dg (nv l) = l
  | [], _, _ => rfl
  | x :: l, hl, ht => by
    have hp : 0 < nv (x :: l) := by
      rcases List.eq_nil_or_concat l with rfl | ⟨a, y, rfl⟩
      · simp only [nv]; have := ht (by simp); simp at this; omega
      · have h1 := ht (by simp)
        have h2 : (x :: (a ++ [y])).getLast (by simp) = y := by
          rw [List.getLast_cons (by simp)]; simp
        have h3 := nv_pos_of_top (x :: a) y (by rw [← h2]; simpa using h1)
        simpa using h3
    have ih := dg_nv_of_top l hl.tail (fun h => by
      have := ht (by simp)
      rwa [List.getLast_cons h] at this)
    rw [dg_pos _ hp]
    simp only [nv]
    have hx := hl.head
    rw [Nat.add_mul_mod_self_left, Nat.mod_eq_of_lt hx, Nat.add_mul_div_left _ _ B_pos, Nat.div_eq_of_lt hx, Nat.zero_add, ih]

theorem dg_len_of_lt (n k : Nat) (h : n < B ^ k) : (dg n).length ≤ k := by
  induction k generalizing n with
  | zero => simp at h; subst h; simp [dg_zero]
  | succ k ih =>
    by_cases h0 : n = 0
    · subst h0; simp [dg_zero]
    · rw [dg_pos n (by omega)]
      have : n / B < B ^ k := by
        rw [Nat.div_lt_iff_lt_mul B_pos]; rwa [Nat.pow_succ] at h
      have := ih _ this
      simp; omega

theorem lt_of_dg_len (n k : Nat) (h : (dg n).length ≤ k) : n < B ^ k := by
  have h1 := nv_lt (dg_lim n)
  rw [nv_dg] at h1
  exact Nat.lt_of_lt_of_le h1 (Nat.pow_le_pow_right B_pos h)

theorem dg_nv_len {l : List Nat} (h : Lim l) : (dg (nv l)).length ≤ l.length := dg_len_of_lt _ _ (nv_lt h)

/-- Without its high zeros a list is the list of its number. -/
theorem dg_trim (l : List Nat) (hl : Lim l) (k : Nat) (hk : k ≤ l.length) (hz : nv (l.drop k) = 0) (ht : ∀ h : 0 < k, l[k - 1]'(by omega) ≠ 0) : l.take k = dg (nv l) := by
  rw [nv_take_drop l k hk, hz, Nat.mul_zero, Nat.add_zero]
  refine (dg_nv_of_top _ (hl.take k) ?_).symm
  intro h
  have h0 : 0 < k := by
    rcases Nat.eq_zero_or_pos k with rfl | h0
    · simp at h
    · exact h0
  have := ht h0
  rw [List.getLast_eq_getElem]
  simpa [Nat.min_eq_left hk] using this

theorem dg_inj {a b : Nat} (h : dg a = dg b) : a = b := by have := congrArg nv h; rwa [nv_dg, nv_dg] at this

theorem dg_one (n : Nat) (h : 0 < n) (hb : n < B) : dg n = [n] := by
  rw [dg_pos n h, Nat.mod_eq_of_lt hb, Nat.div_eq_of_lt hb, dg_zero]

theorem dg_len_pos {n : Nat} (h : 0 < n) : 0 < (dg n).length := by
  rw [dg_pos n h]; simp

theorem nv_two (a b : Nat) : nv [a, b] = a + B * b := by simp [nv]

end Go.Gm
