/-
  How long the corners of a box are. Plain theorems; no condition.
-/
import Derived.Test.YtihmifpdnipdmaaR9r
set_option linter.all false
namespace Go.Gm
open Go.Proofs

theorem minR_sz {n : Nat} {a b : Rat} (ha : Sz n a) (hb : Sz n b) : Sz n (minR a b) := by
  unfold minR
  cases decide (b < a)
  · exact ha
  · exact hb
theorem maxR_sz {n : Nat} {a b : Rat} (ha : Sz n a) (hb : Sz n b) : Sz n (maxR a b) := by
  unfold maxR
  cases decide (a < b)
  · exact ha
  · exact hb
theorem loQ_sp {n : Nat} : ∀ (l : List (Rat × Rat)) (a : Rat × Rat), Sp n a → (∀ p, p ∈ l → Sp n p) → Sp n (loQ a l)
  | [], _, ha, _ => ha
  | b :: l, a, ha, h => loQ_sp l (minR a.1 b.1, minR a.2 b.2) ⟨minR_sz ha.1 (h b (by simp)).1, minR_sz ha.2 (h b (by simp)).2⟩ (fun p hp => h p (List.mem_cons_of_mem _ hp))
theorem hiQ_sp {n : Nat} : ∀ (l : List (Rat × Rat)) (a : Rat × Rat), Sp n a → (∀ p, p ∈ l → Sp n p) → Sp n (hiQ a l)
  | [], _, ha, _ => ha
  | b :: l, a, ha, h => hiQ_sp l (maxR a.1 b.1, maxR a.2 b.2) ⟨maxR_sz ha.1 (h b (by simp)).1, maxR_sz ha.2 (h b (by simp)).2⟩ (fun p hp => h p (List.mem_cons_of_mem _ hp))

theorem box_sp {n : Nat} {l : List (Rat × Rat)} (h2 : 2 ≤ l.length) (h : ∀ p, p ∈ l → Sp n p) : Sp n (boxLo l) ∧ Sp n (boxHi l) := by
  match l, h2 with
  | a :: l, _ => exact ⟨loQ_sp l a (h a (by simp)) (fun p hp => h p (List.mem_cons_of_mem _ hp)), hiQ_sp l a (h a (by simp)) (fun p hp => h p (List.mem_cons_of_mem _ hp))⟩
end Go.Gm
