/-
  Polygons, plain: what does not change when a polygon is turned, mirrored or read backwards. No program in sight.
-/
set_option linter.all false
namespace Go.Gm

abbrev Z2 := Int × Int

/-- The cross product. -/
def crZ (a b c : Z2) : Int := (b.1 - a.1) * (c.2 - a.2) - (b.2 - a.2) * (c.1 - a.1)
def dtZ (a b c : Z2) : Int := (a.1 - b.1) * (c.1 - b.1) + (a.2 - b.2) * (c.2 - b.2)
def onZ (a b p : Z2) : Prop := crZ a b p = 0 ∧ min a.1 b.1 ≤ p.1 ∧ p.1 ≤ max a.1 b.1 ∧ min a.2 b.2 ≤ p.2 ∧ p.2 ≤ max a.2 b.2
def partZ (a b c d : Z2) : Prop := (crZ a b c < 0 ∧ 0 < crZ a b d) ∨ (0 < crZ a b c ∧ crZ a b d < 0)
def meetZ (a b c d : Z2) : Prop := onZ a b c ∨ onZ a b d ∨ onZ c d a ∨ onZ c d b ∨ (partZ a b c d ∧ partZ c d a b)
def foldZ (a b c : Z2) : Prop := crZ a b c = 0 ∧ 0 < dtZ a b c

/-- The next of n. -/
def nx (n i : Nat) : Nat := if i + 1 = n then 0 else i + 1

abbrev at2 (p : List Z2) (i : Nat) : Z2 := p.getD i (0, 0)

/-- A simple polygon. -/
def SimP (p : List Z2) : Prop :=
  (∀ i j, i < p.length → j < p.length → i ≠ j → at2 p i ≠ at2 p j) ∧
  (∀ i, i < p.length → ¬ foldZ (at2 p i) (at2 p (nx p.length i)) (at2 p (nx p.length (nx p.length i)))) ∧
  (∀ i k, i < p.length → k < p.length → i ≠ k → nx p.length i ≠ k → nx p.length k ≠ i → ¬ meetZ (at2 p i) (at2 p (nx p.length i)) (at2 p k) (at2 p (nx p.length k)))

theorem nx_lt {n i : Nat} (h : i < n) : nx n i < n := by unfold nx; split <;> omega
theorem nx_mod {n i : Nat} (h : i < n) : (i + 1) % n = nx n i := by
  unfold nx
  split
  · rename_i e; rw [e, Nat.mod_self]
  · exact Nat.mod_eq_of_lt (by omega)
theorem nx_mod2 {n i : Nat} (h : i < n) : (i + 2) % n = nx n (nx n i) := by
  rw [← nx_mod (nx_lt h), ← nx_mod h, Nat.mod_add_mod]

theorem meetZ_swap {a b c d : Z2} : meetZ a b c d ↔ meetZ c d a b := by
  unfold meetZ
  constructor
  · rintro (h | h | h | h | ⟨h, k⟩)
    · exact .inr (.inr (.inl h))
    · exact .inr (.inr (.inr (.inl h)))
    · exact .inl h
    · exact .inr (.inl h)
    · exact .inr (.inr (.inr (.inr ⟨k, h⟩)))
  · rintro (h | h | h | h | ⟨h, k⟩)
    · exact .inr (.inr (.inl h))
    · exact .inr (.inr (.inr (.inl h)))
    · exact .inl h
    · exact .inr (.inl h)
    · exact .inr (.inr (.inr (.inr ⟨k, h⟩)))

theorem crZ_rev (a b c : Z2) : crZ b a c = -(crZ a b c) := by unfold crZ; grind
theorem crZ_fold (a b c : Z2) : crZ c b a = -(crZ a b c) := by unfold crZ; grind
theorem dtZ_fold (a b c : Z2) : dtZ c b a = dtZ a b c := by unfold dtZ; grind
theorem onZ_rev {a b p : Z2} : onZ b a p ↔ onZ a b p := by
  unfold onZ
  rw [crZ_rev a b p]
  omega
theorem partZ_rev {a b c d : Z2} : partZ b a c d ↔ partZ a b c d := by
  unfold partZ
  rw [crZ_rev a b c, crZ_rev a b d]
  omega
theorem partZ_rev2 {a b c d : Z2} : partZ a b d c ↔ partZ a b c d := by
  unfold partZ
  omega
theorem meetZ_rev {a b c d : Z2} : meetZ b a d c ↔ meetZ a b c d := by
  unfold meetZ
  rw [onZ_rev (a := a) (b := b), onZ_rev (a := a) (b := b), onZ_rev (a := c) (b := d), onZ_rev (a := c) (b := d), partZ_rev (a := a) (b := b), partZ_rev2 (c := c) (d := d), partZ_rev (a := c) (b := d), partZ_rev2 (c := a) (d := b)]
  constructor
  · rintro (h | h | h | h | h)
    · exact .inr (.inl h)
    · exact .inl h
    · exact .inr (.inr (.inr (.inl h)))
    · exact .inr (.inr (.inl h))
    · exact .inr (.inr (.inr (.inr h)))
  · rintro (h | h | h | h | h)
    · exact .inr (.inl h)
    · exact .inl h
    · exact .inr (.inr (.inr (.inl h)))
    · exact .inr (.inr (.inl h))
    · exact .inr (.inr (.inr (.inr h)))
theorem foldZ_rev {a b c : Z2} : foldZ c b a ↔ foldZ a b c := by
  unfold foldZ
  rw [crZ_fold a b c, dtZ_fold a b c]
  omega

theorem at2_rev (p : List Z2) {i : Nat} (h : i < p.length) : at2 p.reverse i = at2 p (p.length - 1 - i) := by
  unfold at2
  rw [List.getD_eq_getElem?_getD, List.getD_eq_getElem?_getD, List.getElem?_reverse h]
theorem at2_map (g : Z2 → Z2) (p : List Z2) {i : Nat} (h : i < p.length) : at2 (p.map g) i = g (at2 p i) := by
  unfold at2
  rw [List.getD_eq_getElem?_getD, List.getD_eq_getElem?_getD, List.getElem?_map, List.getElem?_eq_getElem h]
  rfl

theorem sim_rev1 {p : List Z2} (h : SimP p) : SimP p.reverse := by
  obtain ⟨h1, h2, h3⟩ := h
  unfold SimP
  rw [List.length_reverse]
  obtain ⟨n, hn⟩ : ∃ n, n = p.length := ⟨_, rfl⟩
  rw [← hn] at h1 h2 h3 ⊢
  have ar : ∀ {i}, i < n → at2 p.reverse i = at2 p (n - 1 - i) := fun {i} hi => by rw [hn]; exact at2_rev p (by omega)
  refine ⟨fun i j hi hj hne => ?_, fun i hi => ?_, fun i k hi hk a1 a2 a3 => ?_⟩
  · rw [ar hi, ar hj]
    exact h1 _ _ (by omega) (by omega) (by omega)
  · have l1 := nx_lt hi
    have l2 := nx_lt l1
    rw [ar hi, ar l1, ar l2, foldZ_rev]
    have e1 : nx n (n - 1 - nx n (nx n i)) = n - 1 - nx n i := by unfold nx at l1 l2 ⊢; split <;> split <;> split <;> omega
    have e2 : nx n (n - 1 - nx n i) = n - 1 - i := by unfold nx at l1 ⊢; split <;> split <;> omega
    have := h2 (n - 1 - nx n (nx n i)) (by omega)
    rw [e1, e2] at this
    exact this
  · have li := nx_lt hi
    have lk := nx_lt hk
    rw [ar hi, ar li, ar hk, ar lk, meetZ_rev]
    have e1 : nx n (n - 1 - nx n i) = n - 1 - i := by unfold nx at li ⊢; split <;> split <;> omega
    have e2 : nx n (n - 1 - nx n k) = n - 1 - k := by unfold nx at lk ⊢; split <;> split <;> omega
    have := h3 (n - 1 - nx n i) (n - 1 - nx n k) (by omega) (by omega) (by intro e; exact a1 (by unfold nx at e li lk; split at e <;> split at e <;> omega)) (by rw [e1]; omega) (by rw [e2]; omega)
    rw [e1, e2] at this
    exact this
theorem sim_rev {p : List Z2} : SimP p.reverse ↔ SimP p := ⟨fun h => by have := sim_rev1 h; rwa [List.reverse_reverse] at this, sim_rev1⟩

/-- A map that keeps what matters. -/
structure Mv (g : Z2 → Z2) : Prop where
  inj : ∀ {a b}, g a = g b → a = b
  fold : ∀ {a b c}, foldZ (g a) (g b) (g c) ↔ foldZ a b c
  meet : ∀ {a b c d}, meetZ (g a) (g b) (g c) (g d) ↔ meetZ a b c d

theorem sim_map {g : Z2 → Z2} (hg : Mv g) {p : List Z2} : SimP (p.map g) ↔ SimP p := by
  unfold SimP
  rw [List.length_map]
  have am : ∀ {i}, i < p.length → at2 (p.map g) i = g (at2 p i) := fun {i} hi => at2_map g p hi
  constructor
  · rintro ⟨h1, h2, h3⟩
    refine ⟨fun i j hi hj hne e => h1 i j hi hj hne (by rw [am hi, am hj, e]), fun i hi => ?_, fun i k hi hk a1 a2 a3 => ?_⟩
    · have := h2 i hi
      rwa [am hi, am (nx_lt hi), am (nx_lt (nx_lt hi)), hg.fold] at this
    · have := h3 i k hi hk a1 a2 a3
      rwa [am hi, am (nx_lt hi), am hk, am (nx_lt hk), hg.meet] at this
  · rintro ⟨h1, h2, h3⟩
    refine ⟨fun i j hi hj hne e => h1 i j hi hj hne (by rw [am hi, am hj] at e; exact hg.inj e), fun i hi => ?_, fun i k hi hk a1 a2 a3 => ?_⟩
    · rw [am hi, am (nx_lt hi), am (nx_lt (nx_lt hi)), hg.fold]
      exact h2 i hi
    · rw [am hi, am (nx_lt hi), am hk, am (nx_lt hk), hg.meet]
      exact h3 i k hi hk a1 a2 a3

theorem Mv.comp {f g : Z2 → Z2} (hf : Mv f) (hg : Mv g) : Mv (fun p => f (g p)) := ⟨fun h => hg.inj (hf.inj h), hf.fold.trans hg.fold, hf.meet.trans hg.meet⟩
theorem Mv.id : Mv (fun p => p) := ⟨fun h => h, Iff.rfl, Iff.rfl⟩

/-- A quarter. -/
def qt (p : Z2) : Z2 := (-p.2, p.1)
/-- A mirror image. -/
def fl (p : Z2) : Z2 := (-p.1, p.2)

theorem crZ_qt (a b c : Z2) : crZ (qt a) (qt b) (qt c) = crZ a b c := by unfold crZ qt; grind
theorem crZ_fl (a b c : Z2) : crZ (fl a) (fl b) (fl c) = -(crZ a b c) := by unfold crZ fl; grind
theorem dtZ_qt (a b c : Z2) : dtZ (qt a) (qt b) (qt c) = dtZ a b c := by unfold dtZ qt; grind
theorem dtZ_fl (a b c : Z2) : dtZ (fl a) (fl b) (fl c) = dtZ a b c := by unfold dtZ fl; grind
theorem onZ_qt {a b p : Z2} : onZ (qt a) (qt b) (qt p) ↔ onZ a b p := by
  unfold onZ
  rw [crZ_qt]
  unfold qt
  simp only
  omega
theorem onZ_fl {a b p : Z2} : onZ (fl a) (fl b) (fl p) ↔ onZ a b p := by
  unfold onZ
  rw [crZ_fl]
  unfold fl
  simp only
  omega
theorem partZ_qt {a b c d : Z2} : partZ (qt a) (qt b) (qt c) (qt d) ↔ partZ a b c d := by
  unfold partZ
  rw [crZ_qt, crZ_qt]
theorem partZ_fl {a b c d : Z2} : partZ (fl a) (fl b) (fl c) (fl d) ↔ partZ a b c d := by
  unfold partZ
  rw [crZ_fl, crZ_fl]
  omega
theorem mv_qt : Mv qt := ⟨fun {a b} h => by unfold qt at h; simp only [Prod.mk.injEq] at h; exact Prod.ext h.2 (by omega), by unfold foldZ; intro a b c; rw [crZ_qt, dtZ_qt], by unfold meetZ; intro a b c d; rw [onZ_qt, onZ_qt, onZ_qt, onZ_qt, partZ_qt, partZ_qt]⟩
theorem mv_fl : Mv fl := ⟨fun {a b} h => by unfold fl at h; simp only [Prod.mk.injEq] at h; exact Prod.ext (by omega) h.2, by unfold foldZ; intro a b c; rw [crZ_fl, dtZ_fl]; omega, by unfold meetZ; intro a b c d; rw [onZ_fl, onZ_fl, onZ_fl, onZ_fl, partZ_fl, partZ_fl]⟩

/-! The area. -/

def sumN (f : Nat → Int) : Nat → Int
  | 0 => 0
  | n + 1 => sumN f n + f n
theorem sumN_congr {f g : Nat → Int} : ∀ {n : Nat}, (∀ i, i < n → f i = g i) → sumN f n = sumN g n
  | 0, _ => rfl
  | n + 1, h => by unfold sumN; rw [sumN_congr (fun i hi => h i (by omega)), h n (by omega)]
theorem sumN_neg (f : Nat → Int) : ∀ n, sumN (fun i => -(f i)) n = -(sumN f n)
  | 0 => rfl
  | n + 1 => by unfold sumN; rw [sumN_neg f n]; omega
theorem sumN_head (f : Nat → Int) : ∀ n, sumN f (n + 1) = f 0 + sumN (fun i => f (i + 1)) n
  | 0 => by simp [sumN]
  | n + 1 => by
    have := sumN_head f n
    show sumN f (n + 1) + f (n + 1) = f 0 + (sumN (fun i => f (i + 1)) n + f (n + 1))
    omega
theorem sumN_back (f : Nat → Int) : ∀ n, sumN (fun i => f (n - 1 - i)) n = sumN f n
  | 0 => rfl
  | n + 1 => by
    rw [sumN_head]
    show f (n + 1 - 1 - 0) + _ = sumN f n + f n
    rw [show n + 1 - 1 - 0 = n by omega, ← sumN_back f n, sumN_congr (g := fun i => f (n - 1 - i)) (fun i hi => by show f (n + 1 - 1 - (i + 1)) = f (n - 1 - i); rw [show n + 1 - 1 - (i + 1) = n - 1 - i by omega])]
    omega

def xZ (a b : Z2) : Int := a.1 * b.2 - a.2 * b.1
/-- Twice the area. -/
def areaZ (p : List Z2) : Int := sumN (fun i => xZ (at2 p i) (at2 p (nx p.length i))) p.length

theorem xZ_rev (a b : Z2) : xZ b a = -(xZ a b) := by unfold xZ; grind
theorem area_rev (p : List Z2) : areaZ p.reverse = -(areaZ p) := by
  unfold areaZ
  rw [List.length_reverse]
  cases hn : p.length with
  | zero => rfl
  | succ n =>
    have ar : ∀ {i}, i < n + 1 → at2 p.reverse i = at2 p (n - i) := fun {i} hi => by rw [at2_rev p (by omega)]; congr 1; omega
    rw [← sumN_neg]
    unfold sumN
    rw [ar (show n < n + 1 by omega), ar (nx_lt (show n < n + 1 by omega)), xZ_rev]
    rw [show nx (n + 1) n = 0 by unfold nx; rw [if_pos rfl], Nat.sub_self, Nat.sub_zero]
    rw [← sumN_back (fun i => -(xZ (at2 p i) (at2 p (nx (n + 1) i)))) n]
    congr 1
    refine sumN_congr (fun i hi => ?_)
    rw [ar (show i < n + 1 by omega), ar (nx_lt (show i < n + 1 by omega)), xZ_rev]
    rw [show nx (n + 1) i = i + 1 by unfold nx; rw [if_neg (by omega)], show nx (n + 1) (n - 1 - i) = n - i by unfold nx; rw [if_neg (by omega)]; omega, show n - (i + 1) = n - 1 - i by omega]
theorem area_map {g : Z2 → Z2} {s : Int} (hg : ∀ a b, xZ (g a) (g b) = s * xZ a b) (p : List Z2) : areaZ (p.map g) = s * areaZ p := by
  unfold areaZ
  rw [List.length_map]
  have key : ∀ m, m ≤ p.length → sumN (fun i => xZ (at2 (p.map g) i) (at2 (p.map g) (nx p.length i))) m = s * sumN (fun i => xZ (at2 p i) (at2 p (nx p.length i))) m := by
    intro m
    induction m with
    | zero => intro _; simp [sumN]
    | succ m ih =>
      intro hm
      unfold sumN
      rw [ih (by omega), at2_map g p (show m < p.length by omega), at2_map g p (nx_lt (show m < p.length by omega)), hg, Int.mul_add]
  exact key _ (Nat.le_refl _)
theorem xZ_qt (a b : Z2) : xZ (qt a) (qt b) = 1 * xZ a b := by unfold xZ qt; grind
theorem xZ_fl (a b : Z2) : xZ (fl a) (fl b) = -1 * xZ a b := by unfold xZ fl; grind

end Go.Gm
