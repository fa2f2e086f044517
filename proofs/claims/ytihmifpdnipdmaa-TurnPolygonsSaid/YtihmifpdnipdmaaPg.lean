/-
  The polygons of the program: outside, cross, on, parted, meet, folded, and the searches in slices. Plain theorems; no condition.
-/
import Derived.Test.YtihmifpdnipdmaaPoly0
import Derived.Test.YtihmifpdnipdmaaLawB
set_option linter.all false
namespace Go.Gm
open Go.Proofs

/-- Within the limits of coordinates. -/
def Gr (p : Z2) : Prop := (-1048576 ≤ p.1 ∧ p.1 ≤ 1048576) ∧ (-1048576 ≤ p.2 ∧ p.2 ≤ 1048576)
instance (p : Z2) : Decidable (Gr p) := by unfold Gr; exact inferInstance
instance (a b p : Z2) : Decidable (onZ a b p) := by unfold onZ; exact inferInstance
instance (a b c d : Z2) : Decidable (partZ a b c d) := by unfold partZ; exact inferInstance
instance (a b c d : Z2) : Decidable (meetZ a b c d) := by unfold meetZ; exact inferInstance
instance (a b c : Z2) : Decidable (foldZ a b c) := by unfold foldZ; exact inferInstance

theorem mulB {u v : Int} (hu : -2097152 ≤ u ∧ u ≤ 2097152) (hv : -2097152 ≤ v ∧ v ≤ 2097152) : -4398046511104 ≤ u * v ∧ u * v ≤ 4398046511104 := by
  have h : (u * v).natAbs ≤ 2097152 * 2097152 := by
    rw [Int.natAbs_mul]
    exact Nat.mul_le_mul (by omega) (by omega)
  omega


def sOutside : List RV → Option (Prop × Res)
  | [.agg [.b (.val (.int .i64 x)), .b (.val (.int .i64 y))]] => some (True, .r (.val (.bool (!decide (Gr (x, y))))))
  | _ => none

def T0 : Table := []
theorem T0_ok : TabOk T0 := TabOk.nil

theorem ok_outside : Ok1 118 sOutside := by
  refine ok_of T0_ok Try.func118 rfl (by kernel_rfl) ?_
  intro xs pre res h hp hlim
  unfold sOutside at h
  split at h
  · rename_i x y
    cases h
    refine And.intro (Nat.le_of_ble_eq_true rfl) ?_
    repeat first | refine And.intro rfl ?_ | refine Or.inl (And.intro rfl ?_) | refine Or.inr (And.intro rfl ?_) | refine And.intro (fun (_ : true = true) => ?_) (fun (h : true = false) => Bool.noConfusion h) | refine And.intro (fun (h : false = true) => Bool.noConfusion h) (fun (_ : false = false) => ?_)
    by_cases h1 : x < -1048576
    · refine Or.inr (And.intro (decide_eq_true h1) ?_)
      repeat first | refine And.intro rfl ?_ | refine Or.inl (And.intro rfl ?_) | refine Or.inr (And.intro rfl ?_) | refine And.intro (fun (_ : true = true) => ?_) (fun (h : true = false) => Bool.noConfusion h) | refine And.intro (fun (h : false = true) => Bool.noConfusion h) (fun (_ : false = false) => ?_)
      exact resB (by rw [decide_eq_false (fun h : Gr (x, y) => by have := h.1.1; simp only at this; omega)]; rfl)
    refine Or.inl (And.intro (decide_eq_false h1) ?_)
    repeat first | refine And.intro rfl ?_ | refine Or.inl (And.intro rfl ?_) | refine Or.inr (And.intro rfl ?_) | refine And.intro (fun (_ : true = true) => ?_) (fun (h : true = false) => Bool.noConfusion h) | refine And.intro (fun (h : false = true) => Bool.noConfusion h) (fun (_ : false = false) => ?_)
    by_cases h2 : x > 1048576
    · refine Or.inr (And.intro (decide_eq_true h2) ?_)
      repeat first | refine And.intro rfl ?_ | refine Or.inl (And.intro rfl ?_) | refine Or.inr (And.intro rfl ?_) | refine And.intro (fun (_ : true = true) => ?_) (fun (h : true = false) => Bool.noConfusion h) | refine And.intro (fun (h : false = true) => Bool.noConfusion h) (fun (_ : false = false) => ?_)
      exact resB (by rw [decide_eq_false (fun h : Gr (x, y) => by have := h.1.2; simp only at this; omega)]; rfl)
    refine Or.inl (And.intro (decide_eq_false h2) ?_)
    repeat first | refine And.intro rfl ?_ | refine Or.inl (And.intro rfl ?_) | refine Or.inr (And.intro rfl ?_) | refine And.intro (fun (_ : true = true) => ?_) (fun (h : true = false) => Bool.noConfusion h) | refine And.intro (fun (h : false = true) => Bool.noConfusion h) (fun (_ : false = false) => ?_)
    by_cases h3 : y < -1048576
    · refine Or.inr (And.intro (decide_eq_true h3) ?_)
      repeat first | refine And.intro rfl ?_ | refine Or.inl (And.intro rfl ?_) | refine Or.inr (And.intro rfl ?_) | refine And.intro (fun (_ : true = true) => ?_) (fun (h : true = false) => Bool.noConfusion h) | refine And.intro (fun (h : false = true) => Bool.noConfusion h) (fun (_ : false = false) => ?_)
      exact resB (by rw [decide_eq_false (fun h : Gr (x, y) => by have := h.2.1; simp only at this; omega)]; rfl)
    refine Or.inl (And.intro (decide_eq_false h3) ?_)
    repeat first | refine And.intro rfl ?_ | refine Or.inl (And.intro rfl ?_) | refine Or.inr (And.intro rfl ?_) | refine And.intro (fun (_ : true = true) => ?_) (fun (h : true = false) => Bool.noConfusion h) | refine And.intro (fun (h : false = true) => Bool.noConfusion h) (fun (_ : false = false) => ?_)
    refine resB ?_
    show decide (y > 1048576) = !decide (Gr (x, y))
    by_cases h4 : y > 1048576
    · rw [decide_eq_true h4, decide_eq_false (fun h : Gr (x, y) => by have := h.2.2; simp only at this; omega)]; rfl
    · rw [decide_eq_false h4, decide_eq_true (show Gr (x, y) from ⟨⟨by simp only; omega, by simp only; omega⟩, ⟨by simp only; omega, by simp only; omega⟩⟩)]; rfl
  · cases h

def sPgCross : List RV → Option (Prop × Res)
  | [.agg [.b (.val (.int .i64 ax)), .b (.val (.int .i64 ay))], .agg [.b (.val (.int .i64 bx)), .b (.val (.int .i64 by_))], .agg [.b (.val (.int .i64 cx)), .b (.val (.int .i64 cy))]] => some (Gr (ax, ay) ∧ Gr (bx, by_) ∧ Gr (cx, cy), .r (.val (.int .i64 (crZ (ax, ay) (bx, by_) (cx, cy)))))
  | _ => none

theorem ok_pgCross : Ok1 182 sPgCross := by
  refine ok_of T0_ok Try.func182 rfl (by kernel_rfl) ?_
  intro xs pre res h hp hlim
  unfold sPgCross at h
  split at h
  · rename_i ax ay bx by_ cx cy
    cases h
    obtain ⟨⟨⟨a1, a2⟩, a3, a4⟩, ⟨⟨b1, b2⟩, b3, b4⟩, ⟨⟨c1, c2⟩, c3, c4⟩⟩ := hp
    simp only at a1 a2 a3 a4 b1 b2 b3 b4 c1 c2 c3 c4
    refine And.intro (Nat.le_of_ble_eq_true rfl) ?_
    repeat first | refine And.intro rfl ?_ | refine Or.inl (And.intro rfl ?_) | refine Or.inr (And.intro rfl ?_) | refine And.intro (fun (_ : true = true) => ?_) (fun (h : true = false) => Bool.noConfusion h) | refine And.intro (fun (h : false = true) => Bool.noConfusion h) (fun (_ : false = false) => ?_)
    refine resI ?_
    show IntKind.i64.wrap (IntKind.i64.wrap (IntKind.i64.wrap (bx - ax) * IntKind.i64.wrap (cy - ay)) - IntKind.i64.wrap (IntKind.i64.wrap (by_ - ay) * IntKind.i64.wrap (cx - ax))) = (bx - ax) * (cy - ay) - (by_ - ay) * (cx - ax)
    rw [wI (x := bx - ax) (by omega) (by omega), wI (x := cy - ay) (by omega) (by omega), wI (x := by_ - ay) (by omega) (by omega), wI (x := cx - ax) (by omega) (by omega)]
    have m1 := mulB (u := bx - ax) (v := cy - ay) (by omega) (by omega)
    have m2 := mulB (u := by_ - ay) (v := cx - ax) (by omega) (by omega)
    generalize (bx - ax) * (cy - ay) = m at m1
    generalize (by_ - ay) * (cx - ax) = k at m2
    rw [wI (x := m) (by omega) (by omega), wI (x := k) (by omega) (by omega), wI (by omega) (by omega)]
  · cases h

theorem crZ_bound {a b c : Z2} (ha : Gr a) (hb : Gr b) (hc : Gr c) : -8796093022208 ≤ crZ a b c ∧ crZ a b c ≤ 8796093022208 := by
  obtain ⟨⟨a1, a2⟩, a3, a4⟩ := ha
  obtain ⟨⟨b1, b2⟩, b3, b4⟩ := hb
  obtain ⟨⟨c1, c2⟩, c3, c4⟩ := hc
  have m1 := mulB (u := b.1 - a.1) (v := c.2 - a.2) (by omega) (by omega)
  have m2 := mulB (u := b.2 - a.2) (v := c.1 - a.1) (by omega) (by omega)
  unfold crZ
  omega

def TG0 : Table := [(182, sPgCross), (179, sCmpI)]
theorem TG0_ok : TabOk TG0 := TabOk.cons ok_pgCross (TabOk.cons ok_cmpI TabOk.nil)

def sPgOn : List RV → Option (Prop × Res)
  | [.agg [.b (.val (.int .i64 ax)), .b (.val (.int .i64 ay))], .agg [.b (.val (.int .i64 bx)), .b (.val (.int .i64 by_))], .agg [.b (.val (.int .i64 cx)), .b (.val (.int .i64 cy))]] => some (Gr (ax, ay) ∧ Gr (bx, by_) ∧ Gr (cx, cy), .r (.val (.bool (decide (onZ (ax, ay) (bx, by_) (cx, cy))))))
  | _ => none

theorem ifmin (a b : Int) : (if b < a then b else a) = min a b := by omega
theorem ifmax (a b : Int) : (if b > a then b else a) = max a b := by omega

attribute [local irreducible] crZ

theorem ok_pgOn : Ok1 183 sPgOn := by
  refine ok_of TG0_ok Try.func183 rfl (by kernel_rfl) ?_
  intro xs pre res h hp hlim
  unfold sPgOn at h
  split at h
  · rename_i ax ay bx by_ cx cy
    cases h
    refine And.intro (Nat.le_of_ble_eq_true rfl) ?_
    repeat first | refine And.intro rfl ?_ | refine Or.inl (And.intro rfl ?_) | refine Or.inr (And.intro rfl ?_) | refine And.intro (fun (_ : true = true) => ?_) (fun (h : true = false) => Bool.noConfusion h) | refine And.intro (fun (h : false = true) => Bool.noConfusion h) (fun (_ : false = false) => ?_)
    refine And.intro hp ?_
    generalize hk : crZ (ax, ay) (bx, by_) (cx, cy) = k
    have no : ∀ P : Prop, [Decidable P] → ¬ P → (onZ (ax, ay) (bx, by_) (cx, cy) → P) → false = decide (onZ (ax, ay) (bx, by_) (cx, cy)) := fun P _ hn hi => (decide_eq_false (fun h => hn (hi h))).symm
    repeat first | refine And.intro rfl ?_ | refine Or.inl (And.intro rfl ?_) | refine Or.inr (And.intro rfl ?_) | refine And.intro (fun (_ : true = true) => ?_) (fun (h : true = false) => Bool.noConfusion h) | refine And.intro (fun (h : false = true) => Bool.noConfusion h) (fun (_ : false = false) => ?_)
    by_cases h1 : k = 0
    case neg =>
      refine Or.inr (And.intro (show (k == 0) = false by simp [h1]) ?_)
      repeat first | refine And.intro rfl ?_ | refine Or.inl (And.intro rfl ?_) | refine Or.inr (And.intro rfl ?_) | refine And.intro (fun (_ : true = true) => ?_) (fun (h : true = false) => Bool.noConfusion h) | refine And.intro (fun (h : false = true) => Bool.noConfusion h) (fun (_ : false = false) => ?_)
      exact resB (no _ h1 (fun h => by rw [← hk]; exact h.1))
    refine Or.inl (And.intro (show (k == 0) = true by simp [h1]) ?_)
    repeat first | refine And.intro rfl ?_ | refine Or.inl (And.intro rfl ?_) | refine Or.inr (And.intro rfl ?_) | refine And.intro (fun (_ : true = true) => ?_) (fun (h : true = false) => Bool.noConfusion h) | refine And.intro (fun (h : false = true) => Bool.noConfusion h) (fun (_ : false = false) => ?_)
    by_cases h2 : (if bx < ax then bx else ax) ≤ cx
    case neg =>
      refine Or.inr (And.intro (decide_eq_false h2) ?_)
      repeat first | refine And.intro rfl ?_ | refine Or.inl (And.intro rfl ?_) | refine Or.inr (And.intro rfl ?_) | refine And.intro (fun (_ : true = true) => ?_) (fun (h : true = false) => Bool.noConfusion h) | refine And.intro (fun (h : false = true) => Bool.noConfusion h) (fun (_ : false = false) => ?_)
      exact resB (no _ h2 (fun h => by rw [ifmin]; exact h.2.1))
    refine Or.inl (And.intro (decide_eq_true h2) ?_)
    repeat first | refine And.intro rfl ?_ | refine Or.inl (And.intro rfl ?_) | refine Or.inr (And.intro rfl ?_) | refine And.intro (fun (_ : true = true) => ?_) (fun (h : true = false) => Bool.noConfusion h) | refine And.intro (fun (h : false = true) => Bool.noConfusion h) (fun (_ : false = false) => ?_)
    by_cases h3 : cx ≤ (if bx > ax then bx else ax)
    case neg =>
      refine Or.inr (And.intro (decide_eq_false h3) ?_)
      repeat first | refine And.intro rfl ?_ | refine Or.inl (And.intro rfl ?_) | refine Or.inr (And.intro rfl ?_) | refine And.intro (fun (_ : true = true) => ?_) (fun (h : true = false) => Bool.noConfusion h) | refine And.intro (fun (h : false = true) => Bool.noConfusion h) (fun (_ : false = false) => ?_)
      exact resB (no _ h3 (fun h => by rw [ifmax]; exact h.2.2.1))
    refine Or.inl (And.intro (decide_eq_true h3) ?_)
    repeat first | refine And.intro rfl ?_ | refine Or.inl (And.intro rfl ?_) | refine Or.inr (And.intro rfl ?_) | refine And.intro (fun (_ : true = true) => ?_) (fun (h : true = false) => Bool.noConfusion h) | refine And.intro (fun (h : false = true) => Bool.noConfusion h) (fun (_ : false = false) => ?_)
    by_cases h4 : (if by_ < ay then by_ else ay) ≤ cy
    case neg =>
      refine Or.inr (And.intro (decide_eq_false h4) ?_)
      repeat first | refine And.intro rfl ?_ | refine Or.inl (And.intro rfl ?_) | refine Or.inr (And.intro rfl ?_) | refine And.intro (fun (_ : true = true) => ?_) (fun (h : true = false) => Bool.noConfusion h) | refine And.intro (fun (h : false = true) => Bool.noConfusion h) (fun (_ : false = false) => ?_)
      exact resB (no _ h4 (fun h => by rw [ifmin]; exact h.2.2.2.1))
    refine Or.inl (And.intro (decide_eq_true h4) ?_)
    repeat first | refine And.intro rfl ?_ | refine Or.inl (And.intro rfl ?_) | refine Or.inr (And.intro rfl ?_) | refine And.intro (fun (_ : true = true) => ?_) (fun (h : true = false) => Bool.noConfusion h) | refine And.intro (fun (h : false = true) => Bool.noConfusion h) (fun (_ : false = false) => ?_)
    refine resB ?_
    show decide (cy ≤ (if by_ > ay then by_ else ay)) = _
    rw [ifmin] at h2 h4
    rw [ifmax] at h3 ⊢
    by_cases h5 : cy ≤ max ay by_
    · rw [decide_eq_true h5]
      exact (decide_eq_true (show onZ (ax, ay) (bx, by_) (cx, cy) from ⟨by rw [hk, h1], h2, h3, h4, h5⟩)).symm
    · rw [decide_eq_false h5]
      exact no _ h5 (fun h => h.2.2.2.2)
  · cases h

def sPgParted : List RV → Option (Prop × Res)
  | [.agg [.b (.val (.int .i64 ax)), .b (.val (.int .i64 ay))], .agg [.b (.val (.int .i64 bx)), .b (.val (.int .i64 by_))], .agg [.b (.val (.int .i64 cx)), .b (.val (.int .i64 cy))], .agg [.b (.val (.int .i64 dx)), .b (.val (.int .i64 dy))]] => some (Gr (ax, ay) ∧ Gr (bx, by_) ∧ Gr (cx, cy) ∧ Gr (dx, dy), .r (.val (.bool (decide (partZ (ax, ay) (bx, by_) (cx, cy) (dx, dy))))))
  | _ => none

theorem cmp_three (x : Int) : (x < 0 ∧ cmpZ x 0 = -1) ∨ (x = 0 ∧ cmpZ x 0 = 0) ∨ (0 < x ∧ cmpZ x 0 = 1) := by
  unfold cmpZ
  by_cases h1 : x < 0
  · exact .inl ⟨h1, if_pos h1⟩
  · by_cases h2 : 0 < x
    · exact .inr (.inr ⟨h2, by rw [if_neg h1, if_pos h2]⟩)
    · exact .inr (.inl ⟨by omega, by rw [if_neg h1, if_neg h2]⟩)
theorem cmp_part (m n : Int) : decide (IntKind.i64.wrap (cmpZ m 0 * cmpZ n 0) < 0) = decide ((m < 0 ∧ 0 < n) ∨ (0 < m ∧ n < 0)) := by
  rcases cmp_three m with ⟨h, e⟩ | ⟨h, e⟩ | ⟨h, e⟩ <;> rcases cmp_three n with ⟨k, g⟩ | ⟨k, g⟩ | ⟨k, g⟩ <;> rw [e, g] <;>
    first
      | (rw [decide_eq_true (show (m < 0 ∧ 0 < n) ∨ (0 < m ∧ n < 0) by omega)]; rfl)
      | (rw [decide_eq_false (show ¬ ((m < 0 ∧ 0 < n) ∨ (0 < m ∧ n < 0)) by omega)]; rfl)

theorem ok_pgParted : Ok1 184 sPgParted := by
  refine ok_of TG0_ok Try.func184 rfl (by kernel_rfl) ?_
  intro xs pre res h hp hlim
  unfold sPgParted at h
  split at h
  · rename_i ax ay bx by_ cx cy dx dy
    cases h
    obtain ⟨h1, h2, h3, h4⟩ := hp
    refine And.intro (Nat.le_of_ble_eq_true rfl) ?_
    repeat first | refine And.intro rfl ?_ | refine Or.inl (And.intro rfl ?_) | refine Or.inr (And.intro rfl ?_) | refine And.intro (fun (_ : true = true) => ?_) (fun (h : true = false) => Bool.noConfusion h) | refine And.intro (fun (h : false = true) => Bool.noConfusion h) (fun (_ : false = false) => ?_)
    refine And.intro (And.intro h1 (And.intro h2 h3)) ?_
    generalize hm : crZ (ax, ay) (bx, by_) (cx, cy) = m
    repeat first | refine And.intro rfl ?_ | refine And.intro True.intro ?_ | refine Or.inl (And.intro rfl ?_) | refine Or.inr (And.intro rfl ?_) | refine And.intro (fun (_ : true = true) => ?_) (fun (h : true = false) => Bool.noConfusion h) | refine And.intro (fun (h : false = true) => Bool.noConfusion h) (fun (_ : false = false) => ?_)
    refine And.intro (And.intro h1 (And.intro h2 h4)) ?_
    generalize hn : crZ (ax, ay) (bx, by_) (dx, dy) = n
    repeat first | refine And.intro rfl ?_ | refine And.intro True.intro ?_ | refine Or.inl (And.intro rfl ?_) | refine Or.inr (And.intro rfl ?_) | refine And.intro (fun (_ : true = true) => ?_) (fun (h : true = false) => Bool.noConfusion h) | refine And.intro (fun (h : false = true) => Bool.noConfusion h) (fun (_ : false = false) => ?_)
    refine resB ?_
    show decide (IntKind.i64.wrap (cmpZ m 0 * cmpZ n 0) < 0) = _
    rw [cmp_part]
    exact decide_eq_decide.2 (by unfold partZ; rw [hm, hn])
  · cases h

def TG1 : Table := [(183, sPgOn), (184, sPgParted)] ++ TG0
theorem TG1_ok : TabOk TG1 := TabOk.append (TabOk.cons ok_pgOn (TabOk.cons ok_pgParted TabOk.nil)) TG0_ok

def sPgMeet : List RV → Option (Prop × Res)
  | [.agg [.b (.val (.int .i64 ax)), .b (.val (.int .i64 ay))], .agg [.b (.val (.int .i64 bx)), .b (.val (.int .i64 by_))], .agg [.b (.val (.int .i64 cx)), .b (.val (.int .i64 cy))], .agg [.b (.val (.int .i64 dx)), .b (.val (.int .i64 dy))]] => some (Gr (ax, ay) ∧ Gr (bx, by_) ∧ Gr (cx, cy) ∧ Gr (dx, dy), .r (.val (.bool (decide (meetZ (ax, ay) (bx, by_) (cx, cy) (dx, dy))))))
  | _ => none


attribute [local irreducible] onZ partZ

set_option maxHeartbeats 1000000 in
theorem ok_pgMeet : Ok1 157 sPgMeet := by
  refine ok_of TG1_ok Try.func157 rfl (by kernel_rfl) ?_
  intro xs pre res h hp hlim
  unfold sPgMeet at h
  split at h
  · rename_i ax ay bx by_ cx cy dx dy
    cases h
    obtain ⟨h1, h2, h3, h4⟩ := hp
    refine And.intro (Nat.le_of_ble_eq_true rfl) ?_
    repeat first | refine And.intro rfl ?_ | refine Or.inl (And.intro rfl ?_) | refine Or.inr (And.intro rfl ?_) | refine And.intro (fun (_ : true = true) => ?_) (fun (h : true = false) => Bool.noConfusion h) | refine And.intro (fun (h : false = true) => Bool.noConfusion h) (fun (_ : false = false) => ?_)
    refine And.intro (And.intro h1 (And.intro h2 h3)) ?_
    repeat first | refine And.intro rfl ?_ | refine And.intro True.intro ?_ | refine Or.inl (And.intro rfl ?_) | refine Or.inr (And.intro rfl ?_) | refine And.intro (fun (_ : true = true) => ?_) (fun (h : true = false) => Bool.noConfusion h) | refine And.intro (fun (h : false = true) => Bool.noConfusion h) (fun (_ : false = false) => ?_)
    by_cases c1 : onZ (ax, ay) (bx, by_) (cx, cy)
    case pos =>
      refine Or.inr (And.intro (decide_eq_true c1) ?_)
      repeat first | refine And.intro rfl ?_ | refine And.intro True.intro ?_ | refine Or.inl (And.intro rfl ?_) | refine Or.inr (And.intro rfl ?_) | refine And.intro (fun (_ : true = true) => ?_) (fun (h : true = false) => Bool.noConfusion h) | refine And.intro (fun (h : false = true) => Bool.noConfusion h) (fun (_ : false = false) => ?_)
      exact resB (decide_eq_true (show meetZ (ax, ay) (bx, by_) (cx, cy) (dx, dy) from .inl c1)).symm
    refine Or.inl (And.intro (decide_eq_false c1) ?_)
    repeat first | refine And.intro rfl ?_ | refine And.intro True.intro ?_ | refine Or.inl (And.intro rfl ?_) | refine Or.inr (And.intro rfl ?_) | refine And.intro (fun (_ : true = true) => ?_) (fun (h : true = false) => Bool.noConfusion h) | refine And.intro (fun (h : false = true) => Bool.noConfusion h) (fun (_ : false = false) => ?_)
    refine And.intro (And.intro h1 (And.intro h2 h4)) ?_
    repeat first | refine And.intro rfl ?_ | refine And.intro True.intro ?_ | refine Or.inl (And.intro rfl ?_) | refine Or.inr (And.intro rfl ?_) | refine And.intro (fun (_ : true = true) => ?_) (fun (h : true = false) => Bool.noConfusion h) | refine And.intro (fun (h : false = true) => Bool.noConfusion h) (fun (_ : false = false) => ?_)
    by_cases c2 : onZ (ax, ay) (bx, by_) (dx, dy)
    case pos =>
      refine Or.inr (And.intro (decide_eq_true c2) ?_)
      repeat first | refine And.intro rfl ?_ | refine And.intro True.intro ?_ | refine Or.inl (And.intro rfl ?_) | refine Or.inr (And.intro rfl ?_) | refine And.intro (fun (_ : true = true) => ?_) (fun (h : true = false) => Bool.noConfusion h) | refine And.intro (fun (h : false = true) => Bool.noConfusion h) (fun (_ : false = false) => ?_)
      exact resB (decide_eq_true (show meetZ (ax, ay) (bx, by_) (cx, cy) (dx, dy) from .inr (.inl c2))).symm
    refine Or.inl (And.intro (decide_eq_false c2) ?_)
    repeat first | refine And.intro rfl ?_ | refine And.intro True.intro ?_ | refine Or.inl (And.intro rfl ?_) | refine Or.inr (And.intro rfl ?_) | refine And.intro (fun (_ : true = true) => ?_) (fun (h : true = false) => Bool.noConfusion h) | refine And.intro (fun (h : false = true) => Bool.noConfusion h) (fun (_ : false = false) => ?_)
    refine And.intro (And.intro h3 (And.intro h4 h1)) ?_
    repeat first | refine And.intro rfl ?_ | refine And.intro True.intro ?_ | refine Or.inl (And.intro rfl ?_) | refine Or.inr (And.intro rfl ?_) | refine And.intro (fun (_ : true = true) => ?_) (fun (h : true = false) => Bool.noConfusion h) | refine And.intro (fun (h : false = true) => Bool.noConfusion h) (fun (_ : false = false) => ?_)
    by_cases c3 : onZ (cx, cy) (dx, dy) (ax, ay)
    case pos =>
      refine Or.inr (And.intro (decide_eq_true c3) ?_)
      repeat first | refine And.intro rfl ?_ | refine And.intro True.intro ?_ | refine Or.inl (And.intro rfl ?_) | refine Or.inr (And.intro rfl ?_) | refine And.intro (fun (_ : true = true) => ?_) (fun (h : true = false) => Bool.noConfusion h) | refine And.intro (fun (h : false = true) => Bool.noConfusion h) (fun (_ : false = false) => ?_)
      exact resB (decide_eq_true (show meetZ (ax, ay) (bx, by_) (cx, cy) (dx, dy) from .inr (.inr (.inl c3)))).symm
    refine Or.inl (And.intro (decide_eq_false c3) ?_)
    repeat first | refine And.intro rfl ?_ | refine And.intro True.intro ?_ | refine Or.inl (And.intro rfl ?_) | refine Or.inr (And.intro rfl ?_) | refine And.intro (fun (_ : true = true) => ?_) (fun (h : true = false) => Bool.noConfusion h) | refine And.intro (fun (h : false = true) => Bool.noConfusion h) (fun (_ : false = false) => ?_)
    refine And.intro (And.intro h3 (And.intro h4 h2)) ?_
    repeat first | refine And.intro rfl ?_ | refine And.intro True.intro ?_ | refine Or.inl (And.intro rfl ?_) | refine Or.inr (And.intro rfl ?_) | refine And.intro (fun (_ : true = true) => ?_) (fun (h : true = false) => Bool.noConfusion h) | refine And.intro (fun (h : false = true) => Bool.noConfusion h) (fun (_ : false = false) => ?_)
    by_cases c4 : onZ (cx, cy) (dx, dy) (bx, by_)
    case pos =>
      refine Or.inr (And.intro (decide_eq_true c4) ?_)
      repeat first | refine And.intro rfl ?_ | refine And.intro True.intro ?_ | refine Or.inl (And.intro rfl ?_) | refine Or.inr (And.intro rfl ?_) | refine And.intro (fun (_ : true = true) => ?_) (fun (h : true = false) => Bool.noConfusion h) | refine And.intro (fun (h : false = true) => Bool.noConfusion h) (fun (_ : false = false) => ?_)
      exact resB (decide_eq_true (show meetZ (ax, ay) (bx, by_) (cx, cy) (dx, dy) from .inr (.inr (.inr (.inl c4))))).symm
    refine Or.inl (And.intro (decide_eq_false c4) ?_)
    repeat first | refine And.intro rfl ?_ | refine And.intro True.intro ?_ | refine Or.inl (And.intro rfl ?_) | refine Or.inr (And.intro rfl ?_) | refine And.intro (fun (_ : true = true) => ?_) (fun (h : true = false) => Bool.noConfusion h) | refine And.intro (fun (h : false = true) => Bool.noConfusion h) (fun (_ : false = false) => ?_)
    refine And.intro (And.intro h1 (And.intro h2 (And.intro h3 h4))) ?_
    repeat first | refine And.intro rfl ?_ | refine And.intro True.intro ?_ | refine Or.inl (And.intro rfl ?_) | refine Or.inr (And.intro rfl ?_) | refine And.intro (fun (_ : true = true) => ?_) (fun (h : true = false) => Bool.noConfusion h) | refine And.intro (fun (h : false = true) => Bool.noConfusion h) (fun (_ : false = false) => ?_)
    by_cases c5 : partZ (ax, ay) (bx, by_) (cx, cy) (dx, dy)
    case neg =>
      refine Or.inr (And.intro (decide_eq_false c5) ?_)
      repeat first | refine And.intro rfl ?_ | refine And.intro True.intro ?_ | refine Or.inl (And.intro rfl ?_) | refine Or.inr (And.intro rfl ?_) | refine And.intro (fun (_ : true = true) => ?_) (fun (h : true = false) => Bool.noConfusion h) | refine And.intro (fun (h : false = true) => Bool.noConfusion h) (fun (_ : false = false) => ?_)
      exact resB (decide_eq_false (fun h : meetZ (ax, ay) (bx, by_) (cx, cy) (dx, dy) => by rcases h with h | h | h | h | ⟨h, _⟩ <;> contradiction)).symm
    refine Or.inl (And.intro (decide_eq_true c5) ?_)
    repeat first | refine And.intro rfl ?_ | refine And.intro True.intro ?_ | refine Or.inl (And.intro rfl ?_) | refine Or.inr (And.intro rfl ?_) | refine And.intro (fun (_ : true = true) => ?_) (fun (h : true = false) => Bool.noConfusion h) | refine And.intro (fun (h : false = true) => Bool.noConfusion h) (fun (_ : false = false) => ?_)
    refine And.intro (And.intro h3 (And.intro h4 (And.intro h1 h2))) ?_
    repeat first | refine And.intro rfl ?_ | refine And.intro True.intro ?_ | refine Or.inl (And.intro rfl ?_) | refine Or.inr (And.intro rfl ?_) | refine And.intro (fun (_ : true = true) => ?_) (fun (h : true = false) => Bool.noConfusion h) | refine And.intro (fun (h : false = true) => Bool.noConfusion h) (fun (_ : false = false) => ?_)
    refine resB ?_
    by_cases c6 : partZ (cx, cy) (dx, dy) (ax, ay) (bx, by_)
    · rw [decide_eq_true (show meetZ (ax, ay) (bx, by_) (cx, cy) (dx, dy) from .inr (.inr (.inr (.inr ⟨c5, c6⟩))))]
      exact decide_eq_true c6
    · rw [decide_eq_false (fun h : meetZ (ax, ay) (bx, by_) (cx, cy) (dx, dy) => by rcases h with h | h | h | h | ⟨_, h⟩ <;> contradiction)]
      exact decide_eq_false c6
  · cases h

def sPgFolded : List RV → Option (Prop × Res)
  | [.agg [.b (.val (.int .i64 ax)), .b (.val (.int .i64 ay))], .agg [.b (.val (.int .i64 bx)), .b (.val (.int .i64 by_))], .agg [.b (.val (.int .i64 cx)), .b (.val (.int .i64 cy))]] => some (Gr (ax, ay) ∧ Gr (bx, by_) ∧ Gr (cx, cy), .r (.val (.bool (decide (foldZ (ax, ay) (bx, by_) (cx, cy))))))
  | _ => none

theorem ok_pgFolded : Ok1 156 sPgFolded := by
  refine ok_of TG0_ok Try.func156 rfl (by kernel_rfl) ?_
  intro xs pre res h hp hlim
  unfold sPgFolded at h
  split at h
  · rename_i ax ay bx by_ cx cy
    cases h
    refine And.intro (Nat.le_of_ble_eq_true rfl) ?_
    repeat first | refine And.intro rfl ?_ | refine Or.inl (And.intro rfl ?_) | refine Or.inr (And.intro rfl ?_) | refine And.intro (fun (_ : true = true) => ?_) (fun (h : true = false) => Bool.noConfusion h) | refine And.intro (fun (h : false = true) => Bool.noConfusion h) (fun (_ : false = false) => ?_)
    refine And.intro hp ?_
    obtain ⟨⟨⟨a1, a2⟩, a3, a4⟩, ⟨⟨b1, b2⟩, b3, b4⟩, ⟨⟨c1, c2⟩, c3, c4⟩⟩ := hp
    simp only at a1 a2 a3 a4 b1 b2 b3 b4 c1 c2 c3 c4
    generalize hk : crZ (ax, ay) (bx, by_) (cx, cy) = k
    repeat first | refine And.intro rfl ?_ | refine Or.inl (And.intro rfl ?_) | refine Or.inr (And.intro rfl ?_) | refine And.intro (fun (_ : true = true) => ?_) (fun (h : true = false) => Bool.noConfusion h) | refine And.intro (fun (h : false = true) => Bool.noConfusion h) (fun (_ : false = false) => ?_)
    by_cases h1 : k = 0
    case neg =>
      refine Or.inr (And.intro (show (k == 0) = false by simp [h1]) ?_)
      repeat first | refine And.intro rfl ?_ | refine Or.inl (And.intro rfl ?_) | refine Or.inr (And.intro rfl ?_) | refine And.intro (fun (_ : true = true) => ?_) (fun (h : true = false) => Bool.noConfusion h) | refine And.intro (fun (h : false = true) => Bool.noConfusion h) (fun (_ : false = false) => ?_)
      exact resB (decide_eq_false (fun h : foldZ (ax, ay) (bx, by_) (cx, cy) => h1 (by rw [← hk]; exact h.1))).symm
    refine Or.inl (And.intro (show (k == 0) = true by simp [h1]) ?_)
    repeat first | refine And.intro rfl ?_ | refine Or.inl (And.intro rfl ?_) | refine Or.inr (And.intro rfl ?_) | refine And.intro (fun (_ : true = true) => ?_) (fun (h : true = false) => Bool.noConfusion h) | refine And.intro (fun (h : false = true) => Bool.noConfusion h) (fun (_ : false = false) => ?_)
    refine resB ?_
    show decide (IntKind.i64.wrap (IntKind.i64.wrap (IntKind.i64.wrap (ax - bx) * IntKind.i64.wrap (cx - bx)) + IntKind.i64.wrap (IntKind.i64.wrap (ay - by_) * IntKind.i64.wrap (cy - by_))) > 0) = _
    rw [wI (x := ax - bx) (by omega) (by omega), wI (x := cx - bx) (by omega) (by omega), wI (x := ay - by_) (by omega) (by omega), wI (x := cy - by_) (by omega) (by omega)]
    have m1 := mulB (u := ax - bx) (v := cx - bx) (by omega) (by omega)
    have m2 := mulB (u := ay - by_) (v := cy - by_) (by omega) (by omega)
    have e : foldZ (ax, ay) (bx, by_) (cx, cy) ↔ 0 < (ax - bx) * (cx - bx) + (ay - by_) * (cy - by_) := ⟨fun h => h.2, fun h => ⟨by rw [hk, h1], h⟩⟩
    generalize (ax - bx) * (cx - bx) = m at m1 e
    generalize (ay - by_) * (cy - by_) = n at m2 e
    rw [wI (x := m) (by omega) (by omega), wI (x := n) (by omega) (by omega), wI (by omega) (by omega)]
    by_cases hc : foldZ (ax, ay) (bx, by_) (cx, cy)
    · rw [decide_eq_true hc]
      exact decide_eq_true (e.1 hc)
    · rw [decide_eq_false hc]
      exact decide_eq_false (fun h => hc (e.2 h))
  · cases h

end Go.Gm
