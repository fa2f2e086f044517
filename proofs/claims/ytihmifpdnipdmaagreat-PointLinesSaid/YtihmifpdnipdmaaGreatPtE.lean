/-
  Feet, mirror images and meeting points, plain: the identities that the statements about points name. No program in sight.
-/
import Derived.Test.YtihmifpdnipdmaaGreatPtB
set_option linter.all false
namespace Go.Gm

theorem sq_nn (x : Rat) : 0 ≤ x * x := by
  rcases (Rat.le_total : 0 ≤ x ∨ x ≤ 0) with h | h
  · exact Rat.mul_nonneg h h
  · have h' : 0 ≤ -x := by grind
    have := Rat.mul_nonneg h' h'
    grind
theorem sq0 {x y : Rat} (h : x * x + y * y = 0) : x = 0 ∧ y = 0 := by
  have h1 := sq_nn x
  have h2 := sq_nn y
  have a : x * x = 0 := by grind
  have b : y * y = 0 := by grind
  exact ⟨by grind, by grind⟩
theorem le_plus {x y : Rat} (h : 0 ≤ y) : x ≤ x + y := by grind

theorem footD_zero {a b : Rat × Rat} : footD a b = 0 ↔ a.1 = b.1 ∧ a.2 = b.2 := by
  unfold footD dotP subP
  constructor
  · intro h
    have := sq0 h
    exact ⟨by grind, by grind⟩
  · rintro ⟨h1, h2⟩
    simp only [h1, h2]
    grind

theorem foot_ex {p a b : Rat × Rat} (h : footD a b ≠ 0) : ∃ t : Rat, footQ p a b = (a.1 + (b.1 - a.1) * t, a.2 + (b.2 - a.2) * t) ∧ t * ((b.1 - a.1) * (b.1 - a.1) + (b.2 - a.2) * (b.2 - a.2)) = (p.1 - a.1) * (b.1 - a.1) + (p.2 - a.2) * (b.2 - a.2) := by
  refine ⟨_, rfl, ?_⟩
  show (dotP (subP p a) (subP b a) / footD a b) * footD a b = dotP (subP p a) (subP b a)
  rw [Rat.div_mul_cancel h]

theorem mul_canc {d x y : Rat} (h : d ≠ 0) (e : x * d = y * d) : x = y := by
  have := congrArg (· * d⁻¹) e
  simpa [Rat.mul_assoc, Rat.mul_inv_cancel _ h] using this

theorem mir_ex {p a b : Rat × Rat} (h : footD a b ≠ 0) : ∃ t : Rat, t * ((b.1 - a.1) * (b.1 - a.1) + (b.2 - a.2) * (b.2 - a.2)) = (p.1 - a.1) * (b.1 - a.1) + (p.2 - a.2) * (b.2 - a.2) ∧
    footQ p a b = (a.1 + (b.1 - a.1) * t, a.2 + (b.2 - a.2) * t) ∧ mirQ p a b = (a.1 + (b.1 - a.1) * t + (a.1 + (b.1 - a.1) * t) - p.1, a.2 + (b.2 - a.2) * t + (a.2 + (b.2 - a.2) * t) - p.2) := by
  obtain ⟨t, e, ht⟩ := foot_ex (p := p) h
  exact ⟨t, ht, e, by unfold mirQ; rw [e]; rfl⟩

theorem mir_back {p a b : Rat × Rat} (h : footD a b ≠ 0) : mirQ (mirQ p a b) a b = p := by
  obtain ⟨t, ht, _, e⟩ := mir_ex (p := p) h
  obtain ⟨t', ht', _, e'⟩ := mir_ex (p := mirQ p a b) h
  have h' : (b.1 - a.1) * (b.1 - a.1) + (b.2 - a.2) * (b.2 - a.2) ≠ 0 := h
  have et : t' = t := by
    refine mul_canc h' ?_
    rw [ht', e]
    simp only
    grind
  rw [e', e, et]
  refine Prod.ext ?_ ?_ <;> simp only <;> grind
theorem foot_side {p a b : Rat × Rat} (h : footD a b ≠ 0) : (b.1 - a.1) * ((footQ p a b).2 - a.2) - (b.2 - a.2) * ((footQ p a b).1 - a.1) = 0 := by
  obtain ⟨t, e, ht⟩ := foot_ex (p := p) h
  rw [e]; simp only; grind
theorem mir_sum {p a b : Rat × Rat} : (footQ p a b).1 + (footQ p a b).1 = p.1 + (mirQ p a b).1 ∧ (footQ p a b).2 + (footQ p a b).2 = p.2 + (mirQ p a b).2 := by
  unfold mirQ subP addP
  simp only
  exact ⟨by grind, by grind⟩
theorem mir_dist {p a b : Rat × Rat} (h : footD a b ≠ 0) : (p.1 - a.1) * (p.1 - a.1) + (p.2 - a.2) * (p.2 - a.2) = ((mirQ p a b).1 - a.1) * ((mirQ p a b).1 - a.1) + ((mirQ p a b).2 - a.2) * ((mirQ p a b).2 - a.2) := by
  obtain ⟨t, ht, _, e⟩ := mir_ex (p := p) h
  rw [e]; simp only; grind
theorem mir_side {p a b : Rat × Rat} (h : footD a b ≠ 0) : (b.1 - a.1) * ((mirQ p a b).2 - a.2) - (b.2 - a.2) * ((mirQ p a b).1 - a.1) = -((b.1 - a.1) * (p.2 - a.2) - (b.2 - a.2) * (p.1 - a.1)) := by
  obtain ⟨t, ht, _, e⟩ := mir_ex (p := p) h
  rw [e]; simp only; grind
theorem near_perp {p a b : Rat × Rat} (h : footD a b ≠ 0) : (p.1 - (footQ p a b).1) * (b.1 - a.1) + (p.2 - (footQ p a b).2) * (b.2 - a.2) = 0 := by
  obtain ⟨t, e, ht⟩ := foot_ex (p := p) h
  rw [e]; simp only; grind
theorem near_a {p a b : Rat × Rat} (h : footD a b ≠ 0) : (p.1 - (footQ p a b).1) * (p.1 - (footQ p a b).1) + (p.2 - (footQ p a b).2) * (p.2 - (footQ p a b).2) ≤ (p.1 - a.1) * (p.1 - a.1) + (p.2 - a.2) * (p.2 - a.2) := by
  obtain ⟨t, e, ht⟩ := foot_ex (p := p) h
  rw [e]; simp only
  have h1 := sq_nn ((b.1 - a.1) * t)
  have h2 := sq_nn ((b.2 - a.2) * t)
  have e3 : (p.1 - a.1) * (p.1 - a.1) + (p.2 - a.2) * (p.2 - a.2) = (p.1 - (a.1 + (b.1 - a.1) * t)) * (p.1 - (a.1 + (b.1 - a.1) * t)) + (p.2 - (a.2 + (b.2 - a.2) * t)) * (p.2 - (a.2 + (b.2 - a.2) * t)) + (((b.1 - a.1) * t) * ((b.1 - a.1) * t) + ((b.2 - a.2) * t) * ((b.2 - a.2) * t)) := by grind
  rw [e3]
  exact le_plus (Rat.add_nonneg h1 h2)
theorem near_b {p a b : Rat × Rat} (h : footD a b ≠ 0) : (p.1 - (footQ p a b).1) * (p.1 - (footQ p a b).1) + (p.2 - (footQ p a b).2) * (p.2 - (footQ p a b).2) ≤ (p.1 - b.1) * (p.1 - b.1) + (p.2 - b.2) * (p.2 - b.2) := by
  obtain ⟨t, e, ht⟩ := foot_ex (p := p) h
  rw [e]; simp only
  have h1 := sq_nn ((b.1 - a.1) * (t - 1))
  have h2 := sq_nn ((b.2 - a.2) * (t - 1))
  have e3 : (p.1 - b.1) * (p.1 - b.1) + (p.2 - b.2) * (p.2 - b.2) = (p.1 - (a.1 + (b.1 - a.1) * t)) * (p.1 - (a.1 + (b.1 - a.1) * t)) + (p.2 - (a.2 + (b.2 - a.2) * t)) * (p.2 - (a.2 + (b.2 - a.2) * t)) + (((b.1 - a.1) * (t - 1)) * ((b.1 - a.1) * (t - 1)) + ((b.2 - a.2) * (t - 1)) * ((b.2 - a.2) * (t - 1))) := by grind
  rw [e3]
  exact le_plus (Rat.add_nonneg h1 h2)
theorem meet_ex {a b c d : Rat × Rat} (h : meetD a b c d ≠ 0) : ∃ t : Rat, meetQ a b c d = (a.1 + (b.1 - a.1) * t, a.2 + (b.2 - a.2) * t) ∧ t * ((b.1 - a.1) * (d.2 - c.2) - (b.2 - a.2) * (d.1 - c.1)) = (c.1 - a.1) * (d.2 - c.2) - (c.2 - a.2) * (d.1 - c.1) := by
  refine ⟨_, rfl, ?_⟩
  show (crs (subP c a) (subP d c) / meetD a b c d) * meetD a b c d = crs (subP c a) (subP d c)
  rw [Rat.div_mul_cancel h]
theorem meetD_turn {a b c d : Rat × Rat} : meetD c d b a = meetD a b c d := by
  unfold meetD crs subP
  simp only
  grind
theorem meet_turn {a b c d : Rat × Rat} (h : meetD a b c d ≠ 0) : meetQ c d b a = meetQ a b c d := by
  obtain ⟨t, e, ht⟩ := meet_ex h
  obtain ⟨s, e', hs⟩ := meet_ex (show meetD c d b a ≠ 0 by rw [meetD_turn]; exact h)
  have h' : (b.1 - a.1) * (d.2 - c.2) - (b.2 - a.2) * (d.1 - c.1) ≠ 0 := h
  rw [e, e']
  refine Prod.ext ?_ ?_
  · simp only
    refine mul_canc h' ?_
    grind
  · simp only
    refine mul_canc h' ?_
    grind
theorem meet_side {a b c d : Rat × Rat} (h : meetD a b c d ≠ 0) : (b.1 - a.1) * ((meetQ a b c d).2 - a.2) - (b.2 - a.2) * ((meetQ a b c d).1 - a.1) = 0 := by
  obtain ⟨t, e, ht⟩ := meet_ex h
  rw [e]; simp only; grind
theorem meet_side2 {a b c d : Rat × Rat} (h : meetD a b c d ≠ 0) : (d.1 - c.1) * ((meetQ a b c d).2 - c.2) - (d.2 - c.2) * ((meetQ a b c d).1 - c.1) = 0 := by
  rw [← meet_turn h]
  exact meet_side (by rw [meetD_turn]; exact h)

theorem cmpQ_rng (a b : Rat) : -1 ≤ cmpQ a b ∧ cmpQ a b ≤ 1 := by
  unfold cmpQ
  split
  · decide
  · split <;> decide
theorem cmpQ_self (a : Rat) : cmpQ a a = 0 := by
  unfold cmpQ
  rw [if_neg (Rat.lt_irrefl), if_neg (Rat.lt_irrefl)]
theorem cmpQ_opp (a : Rat) : cmpQ (-a) 0 = -(cmpQ a 0) := by
  unfold cmpQ
  rcases (Rat.le_total : 0 ≤ a ∨ a ≤ 0) with h | h
  · by_cases h1 : a = 0
    · subst h1
      simp
    · have h2 : 0 < a := by grind
      rw [if_pos (show -a < 0 by grind), if_neg (show ¬ a < 0 by grind), if_pos h2]
  · by_cases h1 : a = 0
    · subst h1
      simp
    · have h2 : a < 0 := by grind
      rw [if_neg (show ¬ -a < 0 by grind), if_pos (show 0 < -a by grind), if_pos h2]
      rfl
theorem cmpLe8 {a b : Rat} (h : a ≤ b) : decide (cmpQ a b ≤ 0) = true := by
  unfold cmpQ
  by_cases h1 : a < b
  · rw [if_pos h1]; rfl
  · rw [if_neg h1, if_neg (show ¬ b < a by grind)]; rfl
theorem foot_sz4 {p a b : Rat × Rat} (hp : Sp 4 p) (ha : Sp 4 a) (hb : Sp 4 b) : Sp 95 (footQ p a b) := by
  have w1 := (hb.1.sub ha.1)
  have w2 := (hb.2.sub ha.2)
  have v1 := (hp.1.sub ha.1)
  have v2 := (hp.2.sub ha.2)
  have n := (v1.mul w1).add (v2.mul w2)
  have d := (w1.mul w1).add (w2.mul w2)
  have t := n.div d
  exact (ha.on hb t).mono (by decide)
theorem mir_sz4 {p a b : Rat × Rat} (hp : Sp 4 p) (ha : Sp 4 a) (hb : Sp 4 b) : Sp 196 (mirQ p a b) := by
  have f := foot_sz4 hp ha hb
  exact ⟨((f.1.add f.1).sub hp.1).mono (by decide), ((f.2.add f.2).sub hp.2).mono (by decide)⟩
theorem meet_sz4 {a b c d : Rat × Rat} (ha : Sp 4 a) (hb : Sp 4 b) (hc : Sp 4 c) (hd : Sp 4 d) : Sp 95 (meetQ a b c d) := by
  have w1 := (hd.1.sub hc.1)
  have w2 := (hd.2.sub hc.2)
  have v1 := (hc.1.sub ha.1)
  have v2 := (hc.2.sub ha.2)
  have u1 := (hb.1.sub ha.1)
  have u2 := (hb.2.sub ha.2)
  have n := (v1.mul w2).sub (v2.mul w1)
  have e := (u1.mul w2).sub (u2.mul w1)
  have t := n.div e
  exact (ha.on hb t).mono (by decide)

end Go.Gm
