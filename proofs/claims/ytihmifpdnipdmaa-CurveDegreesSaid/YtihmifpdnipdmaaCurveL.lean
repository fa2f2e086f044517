/-
  Curves, plain: what the points of a curve satisfy. No program in sight.
-/
import Derived.Test.YtihmifpdnipdmaaCurveE
set_option linter.all false
namespace Go.Gm

theorem bez2 (a b : Rat × Rat) (t : Rat) : bez [a, b] t = onP a b t := rfl
theorem bez3 (a b c : Rat × Rat) (t : Rat) : bez [a, b, c] t = onP (onP a b t) (onP b c t) t := rfl
theorem bez4 (a b c d : Rat × Rat) (t : Rat) : bez [a, b, c, d] t = onP (onP (onP a b t) (onP b c t) t) (onP (onP b c t) (onP c d t) t) t := rfl

theorem curve_cases {P : List (Rat × Rat) → Prop} {l : List (Rat × Rat)} (h2 : 2 ≤ l.length) (h4 : l.length ≤ 4) (p2 : ∀ a b, P [a, b]) (p3 : ∀ a b c, P [a, b, c]) (p4 : ∀ a b c d, P [a, b, c, d]) : P l := by
  match l, h2, h4 with
  | [a, b], _, _ => exact p2 a b
  | [a, b, c], _, _ => exact p3 a b c
  | [a, b, c, d], _, _ => exact p4 a b c d

theorem on_fst (a b : Rat × Rat) (t : Rat) : (onP a b t).1 = a.1 + (b.1 - a.1) * t := rfl
theorem on_snd (a b : Rat × Rat) (t : Rat) : (onP a b t).2 = a.2 + (b.2 - a.2) * t := rfl

theorem bez_zero {l : List (Rat × Rat)} (h2 : 2 ≤ l.length) (h4 : l.length ≤ 4) : bez l 0 = hdQ l := by
  refine curve_cases (P := fun l => bez l 0 = hdQ l) h2 h4 (fun a b => ?_) (fun a b c => ?_) (fun a b c d => ?_)
  · exact Prod.ext (by rw [bez2, on_fst]; show _ = a.1; grind) (by rw [bez2, on_snd]; show _ = a.2; grind)
  · exact Prod.ext (by rw [bez3]; simp only [on_fst]; show _ = a.1; grind) (by rw [bez3]; simp only [on_snd]; show _ = a.2; grind)
  · exact Prod.ext (by rw [bez4]; simp only [on_fst]; show _ = a.1; grind) (by rw [bez4]; simp only [on_snd]; show _ = a.2; grind)
theorem bez_one {l : List (Rat × Rat)} (h2 : 2 ≤ l.length) (h4 : l.length ≤ 4) : bez l 1 = lsQ l := by
  refine curve_cases (P := fun l => bez l 1 = lsQ l) h2 h4 (fun a b => ?_) (fun a b c => ?_) (fun a b c d => ?_)
  · exact Prod.ext (by rw [bez2, on_fst]; show _ = b.1; grind) (by rw [bez2, on_snd]; show _ = b.2; grind)
  · exact Prod.ext (by rw [bez3]; simp only [on_fst]; show _ = c.1; grind) (by rw [bez3]; simp only [on_snd]; show _ = c.2; grind)
  · exact Prod.ext (by rw [bez4]; simp only [on_fst]; show _ = d.1; grind) (by rw [bez4]; simp only [on_snd]; show _ = d.2; grind)
theorem bez_rev {l : List (Rat × Rat)} (h2 : 2 ≤ l.length) (h4 : l.length ≤ 4) (t : Rat) : bez l.reverse t = bez l (1 - t) := by
  refine curve_cases (P := fun l => bez l.reverse t = bez l (1 - t)) h2 h4 (fun a b => ?_) (fun a b c => ?_) (fun a b c d => ?_)
  · show bez [b, a] t = _
    exact Prod.ext (by simp only [bez2, on_fst]; grind) (by simp only [bez2, on_snd]; grind)
  · show bez [c, b, a] t = _
    exact Prod.ext (by simp only [bez3, on_fst]; grind) (by simp only [bez3, on_snd]; grind)
  · show bez [d, c, b, a] t = _
    exact Prod.ext (by simp only [bez4, on_fst]; grind) (by simp only [bez4, on_snd]; grind)

theorem gr_mono (m : Nat) : ∀ (k n n' : Nat), n ≤ n' → gr m k n ≤ gr m k n'
  | 0, _, _, h => h
  | k + 1, n, n', h => gr_mono m k _ _ (by omega)
theorem gr_succ (m : Nat) : ∀ (k n : Nat), gr m k n ≤ gr m (k + 1) n := fun k n => gr_mono m k n (3 * n + m + 3) (by omega)
theorem gr_three (m n : Nat) {k : Nat} (h : k ≤ 3) : gr m k n ≤ gr m 3 n := by
  match k, h with
  | 0, _ => exact Nat.le_trans (gr_succ m 0 n) (Nat.le_trans (gr_succ m 1 n) (gr_succ m 2 n))
  | 1, _ => exact Nat.le_trans (gr_succ m 1 n) (gr_succ m 2 n)
  | 2, _ => exact gr_succ m 2 n
  | 3, _ => exact Nat.le_refl _
theorem bez_sp3 {m n : Nat} {t : Rat} (ht : Sz m t) {l : List (Rat × Rat)} (h2 : 2 ≤ l.length) (h4 : l.length ≤ 4) (h : ∀ p, p ∈ l → Sp n p) : Sp (gr m 3 n) (bez l t) := (bez_sp ht (by omega) h).mono (gr_three m n (by omega))

end Go.Gm
