/-
  From a contract of a law to the given statement about it: further types of parameters. Plain theorems; no condition.
-/
import Derived.Test.YtihmifpdnipdmaaBridge
import Derived.Test.YtihmifpdnipdmaaPts
set_option linter.all false
namespace Go.Gm
open Go.Proofs Go.ChangeShapes Go.WideShapes Go.ChangeAt Go.RowKit

set_option maxRecDepth 100000

section
variable {H : Type} {enc : TypeId × Value → H} {W : World} {base b0 : Nat} {v : Value} {d : DataW H} {ps : List MemPlace} {spare : Nat → Bool} {held : Bool} {fuel : Nat} {cs : List Value} {x : DataW H × List MemPlace}

theorem one_cells {xs : List BV} (hx : ∀ y, y ∈ xs → (∃ b, y = .val (.bool b)) ∨ ∃ l, y = .nat l) : ∀ {cs : List Value}, All2 (BV.mean All W) xs cs → ∀ u, u ∈ cs → u.oneCell' = true := by
  induction xs with
  | nil => intro cs h u hu; cases cs with
    | nil => cases hu
    | cons _ _ => exact h.elim
  | cons y xs ih =>
    intro cs h u hu
    cases cs with
    | nil => exact h.elim
    | cons c cs =>
      rcases List.mem_cons.1 hu with rfl | hu
      · rcases hx y (List.mem_cons_self ..) with ⟨b, rfl⟩ | ⟨l, rfl⟩
        · have e : u = .bool b := h.1
          rw [e]; rfl
        · obtain ⟨_, a, c, hv, _⟩ := h.1
          rw [hv]; rfl
      · exact ih (fun y hy => hx y (List.mem_cons_of_mem _ hy)) h.2 u hu

/-- The cells of a point. -/
def IsPtB (b : List BV) : Prop := ∃ s l t s2 l2 t2, b = [.val (.bool s), .nat l, .nat t, .val (.bool s2), .nat l2, .nat t2]

theorem isP_of {l : List (List BV)} (h : ∀ b, b ∈ l → IsPtB b) : IsP l := by
  unfold IsP ptsOf
  rw [List.map_map]
  conv => lhs; rw [← List.map_id l]
  refine List.map_congr_left (fun b hb => ?_)
  obtain ⟨s, l, t, s2, l2, t2, rfl⟩ := h b hb
  rfl

theorem opn_pts (hv : Value.okWide Try.prog W .any b0 52 v) (h : DataW.Trod enc Try.prog W base (fun _ => true) true 52 v d ps) : ∃ l : List (List BV), (∀ b, b ∈ l → IsPtB b) ∧ RV.mean All W (.one (.sl 6 l)) v := by
  obtain ⟨a, len, cap, rfl⟩ := okWide_slice Try.underlying52 hv
  obtain ⟨fu, h⟩ := h
  obtain ⟨v', l, hc, hrow, hR⟩ := op_row (R := IsPtB) Try.underlying52 (n := 6) (by kernel_rfl) (by decide) (fun fu cs y _ hy => by
    obtain ⟨s, l, t, s2, l2, t2, hm⟩ := ops_pt hy
    refine ⟨_, ⟨s, l, t, s2, l2, t2, rfl⟩, hm, one_cells (fun y hy => ?_) hm⟩
    simp only [List.mem_cons, List.not_mem_nil, or_false] at hy
    rcases hy with rfl | rfl | rfl | rfl | rfl | rfl <;> first | exact .inl ⟨_, rfl⟩ | exact .inr ⟨_, rfl⟩) h
  have e : Value.slice a len cap = v' := by simpa [Value.cells] using hc
  exact ⟨l, hR, by rw [e]; exact hrow⟩

theorem opn_u8 (hv : Value.okWide Try.prog W .any b0 5 v) (h : DataW.Trod enc Try.prog W base (fun _ => true) true 5 v d ps) : ∃ n, (0 ≤ n ∧ n < 256) ∧ RV.mean All W (.one (.val (.int .u8 n))) v := by
  obtain ⟨n, rfl, _, _, hw⟩ := open_int Try.underlying5 hv h
  exact ⟨n, wf_u8 hw, rfl⟩

theorem ops_arr (h : DataW.trod enc Try.prog W base spare held fuel 80 cs = some x) : ∃ s0 l0 t0 z0 k0 u0 s1 l1 t1 z1 k1 u1 s2 l2 t2 z2 k2 u2 s3 l3 t3 z3 k3 u3, All2 (BV.mean All W) [BV.val (.bool s0), BV.nat l0, BV.nat t0, BV.val (.bool z0), BV.nat k0, BV.nat u0, BV.val (.bool s1), BV.nat l1, BV.nat t1, BV.val (.bool z1), BV.nat k1, BV.nat u1, BV.val (.bool s2), BV.nat l2, BV.nat t2, BV.val (.bool z2), BV.nat k2, BV.nat u2, BV.val (.bool s3), BV.nat l3, BV.nat t3, BV.val (.bool z3), BV.nat k3, BV.nat u3] cs := by
  obtain ⟨xs, m, _, _, hl, hx, hf⟩ := DataW.trod_array Try.underlying80 h
  have c6 : Try.prog.cellsOf 38 = 6 := by kernel_rfl
  have c24 : Try.prog.cellsOf 80 = 24 := by kernel_rfl
  rw [c24] at hl
  have key : ∀ i, i < 4 → ∃ s l t z k u, All2 (BV.mean All W) [.val (.bool s), .nat l, .nat t, .val (.bool z), .nat k, .nat u] ((cs.drop (i * 6)).take 6) := fun i hi => by
    have := hf i hi
    rw [c6, List.getElem?_eq_getElem (by omega)] at this
    exact ops_pt this
  obtain ⟨s0, l0, t0, z0, k0, u0, m0⟩ := key 0 (by decide)
  obtain ⟨s1, l1, t1, z1, k1, u1, m1⟩ := key 1 (by decide)
  obtain ⟨s2, l2, t2, z2, k2, u2, m2⟩ := key 2 (by decide)
  obtain ⟨s3, l3, t3, z3, k3, u3, m3⟩ := key 3 (by decide)
  have cut : ∀ k, cs.drop (k * 6) = (cs.drop (k * 6)).take 6 ++ cs.drop ((k + 1) * 6) := fun k => by
    conv => lhs; rw [← List.take_append_drop 6 (cs.drop (k * 6))]
    rw [List.drop_drop, Nat.add_mul, Nat.one_mul]
  have e : cs = (cs.drop (0 * 6)).take 6 ++ ((cs.drop (1 * 6)).take 6 ++ ((cs.drop (2 * 6)).take 6 ++ (cs.drop (3 * 6)).take 6)) := by
    have e3 : (cs.drop (3 * 6)).take 6 = cs.drop (3 * 6) := List.take_of_length_le (by rw [List.length_drop]; omega)
    rw [e3, ← cut 2, ← cut 1, ← cut 0, Nat.zero_mul, List.drop_zero]
  have hall := m0.append (m1.append (m2.append m3))
  rw [← e] at hall
  exact ⟨s0, l0, t0, z0, k0, u0, s1, l1, t1, z1, k1, u1, s2, l2, t2, z2, k2, u2, s3, l3, t3, z3, k3, u3, hall⟩

theorem opn_arr (hv : Value.okWide Try.prog W .any b0 80 v) (h : DataW.Trod enc Try.prog W base (fun _ => true) true 80 v d ps) : ∃ s0 l0 t0 z0 k0 u0 s1 l1 t1 z1 k1 u1 s2 l2 t2 z2 k2 u2 s3 l3 t3 z3 k3 u3, RV.mean All W (.agg [.b (BV.val (.bool s0)), .b (BV.nat l0), .b (BV.nat t0), .b (BV.val (.bool z0)), .b (BV.nat k0), .b (BV.nat u0), .b (BV.val (.bool s1)), .b (BV.nat l1), .b (BV.nat t1), .b (BV.val (.bool z1)), .b (BV.nat k1), .b (BV.nat u1), .b (BV.val (.bool s2)), .b (BV.nat l2), .b (BV.nat t2), .b (BV.val (.bool z2)), .b (BV.nat k2), .b (BV.nat u2), .b (BV.val (.bool s3)), .b (BV.nat l3), .b (BV.nat t3), .b (BV.val (.bool z3)), .b (BV.nat k3), .b (BV.nat u3)]) v := by
  have hu := Try.underlying80
  unfold Value.okWide at hv
  rw [hu] at hv
  obtain ⟨cs, rfl, _⟩ := hv
  obtain ⟨fu, h⟩ := h
  obtain ⟨s0, l0, t0, z0, k0, u0, s1, l1, t1, z1, k1, u1, s2, l2, t2, z2, k2, u2, s3, l3, t3, z3, k3, u3, hm⟩ := ops_arr h
  exact ⟨s0, l0, t0, z0, k0, u0, s1, l1, t1, z1, k1, u1, s2, l2, t2, z2, k2, u2, s3, l3, t3, z3, k3, u3, cs.toList, rfl, bv_cv hm⟩
end

end Go.Gm
