/-
  The statements about turns: TurnPolygons. Plain theorems; no condition.
-/
import Derived.Test.YtihmifpdnipdmaaPgC
set_option linter.all false
namespace Go.Gm
open Go.Proofs

noncomputable def TG8 : Table := [(61, sCheck), (62, sArea2)] ++ TL0
theorem TG8_ok : TabOk TG8 := TabOk.append (TabOk.cons ok_Check (TabOk.cons ok_Area2 TabOk.nil)) TL0_ok

/-- Both coordinates are ints. -/
def InZ (p : Z2) : Prop := InR p.1 ∧ InR p.2

theorem inZ_of {l : List (List BV)} (h : ∀ b, b ∈ l → ∃ x y, (-9223372036854775808 ≤ x ∧ x < 9223372036854775808) ∧ (-9223372036854775808 ≤ y ∧ y < 9223372036854775808) ∧ b = [BV.val (.int .i64 x), BV.val (.int .i64 y)]) : ∀ p, p ∈ spots l → InZ p := by
  intro p hp
  obtain ⟨b, hb, rfl⟩ := List.mem_map.1 hp
  obtain ⟨x, y, hx, hy, rfl⟩ := h b hb
  exact ⟨hx, hy⟩

/-- A turn, without a limit. -/
def qtN : Nat → Z2 → Z2
  | 0, p => p
  | k + 1, p => qt (qtN k p)
def gT (f : Bool) (k : Nat) (p : Z2) : Z2 := qtN k (cond f (fl p) p)

theorem ng_gr {x : Int} (h : -1048576 ≤ x ∧ x ≤ 1048576) : ng x = -x := by
  unfold ng
  rw [wI (by omega) (by omega)]
  omega
theorem Gr.qt {p : Z2} (h : Gr p) : Gr (qt p) := ⟨⟨by have := h.2; show -1048576 ≤ -p.2; omega, by have := h.2; show -p.2 ≤ 1048576; omega⟩, h.1⟩
theorem Gr.fl {p : Z2} (h : Gr p) : Gr (fl p) := ⟨⟨by have := h.1; show -1048576 ≤ -p.1; omega, by have := h.1; show -p.1 ≤ 1048576; omega⟩, h.2⟩
theorem Gr.qtN {p : Z2} (h : Gr p) : ∀ k, Gr (qtN k p)
  | 0 => h
  | k + 1 => (Gr.qtN h k).qt
theorem rot_gr {p : Z2} (h : Gr p) : ∀ k, rotN k p = qtN k p
  | 0 => rfl
  | k + 1 => by
    show (ng (rotN k p).2, (rotN k p).1) = Go.Gm.qt (Go.Gm.qtN k p)
    rw [rot_gr h k]
    unfold Go.Gm.qt
    rw [ng_gr (h.qtN k).2]
theorem ap_gr {p : Z2} (f : Bool) (q : Int) (h : Gr p) : apZ f q p = gT f (q % 4).toNat p := by
  unfold apZ gT
  cases f with
  | false => exact rot_gr h _
  | true =>
    have e : ((ng p.1, p.2) : Z2) = fl p := by unfold fl; rw [ng_gr h.1]
    show rotN (q % 4).toNat (ng p.1, p.2) = _
    rw [e]
    exact rot_gr h.fl _

theorem mv_qtN : ∀ k, Mv (qtN k)
  | 0 => Mv.id
  | k + 1 => (show Mv (fun p => qt (qtN k p)) from Mv.comp (f := qt) (g := qtN k) mv_qt (mv_qtN k))
theorem mv_gT (f : Bool) (k : Nat) : Mv (gT f k) := by
  cases f with
  | false => exact mv_qtN k
  | true => exact (show Mv (fun p => qtN k (fl p)) from Mv.comp (f := qtN k) (g := fl) (mv_qtN k) mv_fl)
theorem xZ_qtN (a b : Z2) : ∀ k, xZ (qtN k a) (qtN k b) = xZ a b
  | 0 => rfl
  | k + 1 => by
    show xZ (qt (qtN k a)) (qt (qtN k b)) = _
    rw [xZ_qt, xZ_qtN a b k, Int.one_mul]
theorem xZ_gT (f : Bool) (k : Nat) (a b : Z2) : xZ (gT f k a) (gT f k b) = (cond f (-1) 1) * xZ a b := by
  unfold gT
  rw [xZ_qtN]
  cases f with
  | false => rw [show cond false (-1) (1 : Int) = 1 from rfl, Int.one_mul]; rfl
  | true => exact xZ_fl a b

theorem ng_in {x : Int} (h : InR x) : (InR (ng x)) ∧ ((-1048576 ≤ ng x ∧ ng x ≤ 1048576) ↔ (-1048576 ≤ x ∧ x ≤ 1048576)) := by
  unfold ng
  rw [IntKind.wrap_i64]
  refine ⟨⟨by omega, by omega⟩, by omega⟩
theorem rot_in {p : Z2} (h : InZ p) : ∀ k, InZ (rotN k p) ∧ (Gr (rotN k p) ↔ Gr p)
  | 0 => ⟨h, Iff.rfl⟩
  | k + 1 => by
    obtain ⟨h1, h2⟩ := rot_in h k
    have n2 := ng_in h1.2
    refine ⟨⟨n2.1, h1.1⟩, Iff.trans ?_ h2⟩
    unfold Gr
    show (_ ∧ _) ↔ _
    constructor
    · rintro ⟨a, b⟩; exact ⟨b, n2.2.1 a⟩
    · rintro ⟨a, b⟩; exact ⟨n2.2.2 b, a⟩
theorem ap_in {p : Z2} (f : Bool) (q : Int) (h : InZ p) : InZ (apZ f q p) ∧ (Gr (apZ f q p) ↔ Gr p) := by
  unfold apZ
  cases f with
  | false => exact rot_in h _
  | true =>
    have n1 := ng_in h.1
    obtain ⟨h1, h2⟩ := rot_in (p := (ng p.1, p.2)) ⟨n1.1, h.2⟩ (q % 4).toNat
    refine ⟨h1, Iff.trans h2 ?_⟩
    unfold Gr
    exact ⟨fun ⟨a, b⟩ => ⟨n1.2.1 a, b⟩, fun ⟨a, b⟩ => ⟨n1.2.2 a, b⟩⟩

theorem any_poly (f : Bool) (q : Int) {ps : List Z2} (h : ∀ p, p ∈ ps → InZ p) : ((polyL f q ps).any fun p => !decide (Gr p)) = ps.any fun p => !decide (Gr p) := by
  have key : ((ps.map (apZ f q)).any fun p => !decide (Gr p)) = ps.any fun p => !decide (Gr p) := by
    rw [List.any_map]
    have : ∀ (l : List Z2), (∀ p, p ∈ l → InZ p) → l.any ((fun p => !decide (Gr p)) ∘ apZ f q) = l.any fun p => !decide (Gr p) := by
      intro l
      induction l with
      | nil => intro _; rfl
      | cons p l ih =>
        intro hl
        rw [List.any_cons, List.any_cons, ih fun p hp => hl p (List.mem_cons_of_mem _ hp)]
        congr 1
        show (!decide (Gr (apZ f q p))) = !decide (Gr p)
        rw [decide_eq_decide.2 (ap_in f q (hl p (List.mem_cons_self ..))).2]
    exact this ps h
  unfold polyL
  cases f with
  | false => exact key
  | true =>
    show (((ps.map (apZ true q)).reverse).any fun p => !decide (Gr p)) = _
    rw [List.any_reverse]
    exact key
theorem poly_gr (f : Bool) (q : Int) {ps : List Z2} (h : ∀ p, p ∈ ps → Gr p) : polyL f q ps = cond f (ps.map (gT f (q % 4).toNat)).reverse (ps.map (gT f (q % 4).toNat)) := by
  unfold polyL
  rw [List.map_congr_left (fun p hp => ap_gr f q (h p hp))]
theorem sim_poly (f : Bool) (q : Int) {ps : List Z2} (h : ∀ p, p ∈ ps → Gr p) : SimP (polyL f q ps) ↔ SimP ps := by
  rw [poly_gr f q h]
  cases f with
  | false => exact sim_map (mv_gT false _)
  | true => exact sim_rev.trans (sim_map (mv_gT true _))
theorem area_poly (f : Bool) (q : Int) {ps : List Z2} (h : ∀ p, p ∈ ps → Gr p) : areaZ (polyL f q ps) = areaZ ps := by
  rw [poly_gr f q h]
  cases f with
  | false =>
    show areaZ (ps.map _) = _
    rw [area_map (xZ_gT false _)]
    show 1 * areaZ ps = _
    omega
  | true =>
    show areaZ (ps.map _).reverse = _
    rw [area_rev, area_map (xZ_gT true _)]
    show -(-1 * areaZ ps) = _
    omega
theorem chk_poly (f : Bool) (q : Int) {ps : List Z2} (h : ∀ p, p ∈ ps → InZ p) : chkZ (polyL f q ps) = 0 ↔ chkZ ps = 0 := by
  rw [chk_ok, chk_ok, polyL_len, any_poly f q h]
  constructor
  · rintro ⟨h1, h2, h3⟩
    exact ⟨h1, h2, (sim_poly f q (all_gr h2)).1 h3⟩
  · rintro ⟨h1, h2, h3⟩
    exact ⟨h1, h2, (sim_poly f q (all_gr h2)).2 h3⟩
theorem ar2_poly (f : Bool) (q : Int) {ps : List Z2} (h : ∀ p, p ∈ ps → InZ p) : ar2Z (polyL f q ps) = ar2Z ps := by
  unfold ar2Z
  by_cases h0 : chkZ ps = 0
  · rw [(chk_poly f q h).2 h0, h0, area_poly f q (all_gr (chk_ok.1 h0).2.1)]
  · have h1 : ¬ chkZ (polyL f q ps) = 0 := fun e => h0 ((chk_poly f q h).1 e)
    rw [show (chkZ ps == 0) = false from beq_false_of_ne h0, show (chkZ (polyL f q ps) == 0) = false from beq_false_of_ne h1]
    rfl
theorem poly_back (f : Bool) (q : Int) {ps : List Z2} (h : ∀ p, p ∈ ps → InZ p) : polyL f (tinv f q) (polyL f q ps) = ps := by
  have key : (ps.map (apZ f q)).map (apZ f (tinv f q)) = ps := by
    rw [List.map_map]
    conv => rhs; rw [← List.map_id ps]
    exact List.map_congr_left (fun p hp => ap_inv f q p.1 p.2 (h p hp).1 (h p hp).2)
  unfold polyL
  cases f with
  | false => exact key
  | true =>
    show ((((ps.map (apZ true q)).reverse).map (apZ true (tinv true q)))).reverse = ps
    rw [List.map_reverse, List.reverse_reverse]
    exact key

def sTurnPolygons : List RV → Option (Prop × Res)
  | [.agg [.b (.val (.bool f)), .b (.val (.int .i64 q))], .one (.sl 2 l)] => some (IsSp l ∧ ∀ p, p ∈ spots l → InZ p, .r (.val (.bool true)))
  | _ => none

attribute [local irreducible] chkZ ar2Z polyL tinv

set_option maxHeartbeats 1000000 in
theorem ok_TurnPolygons : Ok1 12 sTurnPolygons := by
  refine ok_of TG8_ok Try.func12 rfl (by kernel_rfl) ?_
  intro xs pre res h hp hlim
  unfold sTurnPolygons at h
  split at h
  · rename_i f q l
    cases h
    obtain ⟨hl, hz⟩ := hp
    have hs : (spots l).length = l.length := by simp [spots]
    refine And.intro (Nat.le_of_ble_eq_true rfl) ?_
    repeat first | refine And.intro rfl ?_ | refine Or.inl (And.intro rfl ?_) | refine Or.inr (And.intro rfl ?_) | refine And.intro (fun (_ : true = true) => ?_) (fun (h : true = false) => Bool.noConfusion h) | refine And.intro (fun (h : false = true) => Bool.noConfusion h) (fun (_ : false = false) => ?_)
    refine And.intro (fun hc => ?_) (fun hc => ?_)
    · repeat first | refine And.intro rfl ?_ | refine And.intro True.intro ?_ | refine Or.inl (And.intro rfl ?_) | refine Or.inr (And.intro rfl ?_) | refine And.intro (fun (_ : true = true) => ?_) (fun (h : true = false) => Bool.noConfusion h) | refine And.intro (fun (h : false = true) => Bool.noConfusion h) (fun (_ : false = false) => ?_)
      rfl
    · have hlen : l.length ≤ 50 := by
        have : ¬ (l.length : Int) > 50 := of_decide_eq_false hc
        omega
      have hpl := polyL_len f q (spots l)
      have e1 := spots_map (polyL f q (spots l))
      have e2 := poly_back f q hz
      have e3 := chk_poly f q hz
      have e4 := ar2_poly f q hz
      have hml : ((polyL f q (spots l)).map spB).length ≤ 100000 := by rw [List.length_map]; omega
      have hml2 : ((spots l).map spB).length ≤ 100000 := by rw [List.length_map]; omega
      repeat first | refine And.intro rfl ?_ | refine And.intro True.intro ?_ | refine Or.inl (And.intro rfl ?_) | refine Or.inr (And.intro rfl ?_) | refine And.intro (fun (_ : true = true) => ?_) (fun (h : true = false) => Bool.noConfusion h) | refine And.intro (fun (h : false = true) => Bool.noConfusion h) (fun (_ : false = false) => ?_)
      refine And.intro (And.intro hl (show l.length ≤ 100000 by omega)) ?_
      generalize polyL f q (spots l) = Q at hpl e1 e2 e3 e4 hml
      repeat first | refine And.intro rfl ?_ | refine And.intro True.intro ?_ | refine Or.inl (And.intro rfl ?_) | refine Or.inr (And.intro rfl ?_) | refine And.intro (fun (_ : true = true) => ?_) (fun (h : true = false) => Bool.noConfusion h) | refine And.intro (fun (h : false = true) => Bool.noConfusion h) (fun (_ : false = false) => ?_)
      refine And.intro (And.intro (isSp_map Q) hml) ?_
      rw [e1, e2]
      repeat first | refine And.intro rfl ?_ | refine And.intro True.intro ?_ | refine Or.inl (And.intro rfl ?_) | refine Or.inr (And.intro rfl ?_) | refine And.intro (fun (_ : true = true) => ?_) (fun (h : true = false) => Bool.noConfusion h) | refine And.intro (fun (h : false = true) => Bool.noConfusion h) (fun (_ : false = false) => ?_)
      refine And.intro (And.intro (isSp_map _) (And.intro hl (And.intro hml2 (show l.length ≤ 100000 by omega)))) ?_
      rw [spots_map, decide_eq_true (rfl : spots l = spots l)]
      repeat first | refine And.intro rfl ?_ | refine And.intro True.intro ?_ | refine Or.inl (And.intro rfl ?_) | refine Or.inr (And.intro rfl ?_) | refine And.intro (fun (_ : true = true) => ?_) (fun (h : true = false) => Bool.noConfusion h) | refine And.intro (fun (h : false = true) => Bool.noConfusion h) (fun (_ : false = false) => ?_)
      refine And.intro (And.intro hl (show l.length ≤ 100000 by omega)) ?_
      generalize hA : chkZ (spots l) = A at e3
      repeat first | refine And.intro rfl ?_ | refine And.intro True.intro ?_ | refine Or.inl (And.intro rfl ?_) | refine Or.inr (And.intro rfl ?_) | refine And.intro (fun (_ : true = true) => ?_) (fun (h : true = false) => Bool.noConfusion h) | refine And.intro (fun (h : false = true) => Bool.noConfusion h) (fun (_ : false = false) => ?_)
      refine And.intro (And.intro (isSp_map Q) hml) ?_
      rw [e1]
      generalize hB : chkZ Q = B at e3
      repeat first | refine And.intro rfl ?_ | refine And.intro True.intro ?_ | refine Or.inl (And.intro rfl ?_) | refine Or.inr (And.intro rfl ?_) | refine And.intro (fun (_ : true = true) => ?_) (fun (h : true = false) => Bool.noConfusion h) | refine And.intro (fun (h : false = true) => Bool.noConfusion h) (fun (_ : false = false) => ?_)
      refine Or.inl (And.intro (show ((A == 0) == (B == 0)) = true by
        by_cases h0 : A = 0
        · rw [h0, e3.2 h0]; rfl
        · have h1 : ¬ B = 0 := fun h => h0 (e3.1 h)
          rw [show (A == 0) = false from beq_false_of_ne h0, show (B == 0) = false from beq_false_of_ne h1]; rfl) ?_)
      repeat first | refine And.intro rfl ?_ | refine And.intro True.intro ?_ | refine Or.inl (And.intro rfl ?_) | refine Or.inr (And.intro rfl ?_) | refine And.intro (fun (_ : true = true) => ?_) (fun (h : true = false) => Bool.noConfusion h) | refine And.intro (fun (h : false = true) => Bool.noConfusion h) (fun (_ : false = false) => ?_)
      refine And.intro (And.intro hl (show l.length ≤ 100000 by omega)) ?_
      generalize ar2Z (spots l) = C at e4
      repeat first | refine And.intro rfl ?_ | refine And.intro True.intro ?_ | refine Or.inl (And.intro rfl ?_) | refine Or.inr (And.intro rfl ?_) | refine And.intro (fun (_ : true = true) => ?_) (fun (h : true = false) => Bool.noConfusion h) | refine And.intro (fun (h : false = true) => Bool.noConfusion h) (fun (_ : false = false) => ?_)
      refine And.intro (And.intro (isSp_map Q) hml) ?_
      rw [e1, e4]
      repeat first | refine And.intro rfl ?_ | refine And.intro True.intro ?_ | refine Or.inl (And.intro rfl ?_) | refine Or.inr (And.intro rfl ?_) | refine And.intro (fun (_ : true = true) => ?_) (fun (h : true = false) => Bool.noConfusion h) | refine And.intro (fun (h : false = true) => Bool.noConfusion h) (fun (_ : false = false) => ?_)
      refine Or.inl (And.intro (show (C == C) = true by simp) ?_)
      repeat first | refine And.intro rfl ?_ | refine And.intro True.intro ?_ | refine Or.inl (And.intro rfl ?_) | refine Or.inr (And.intro rfl ?_) | refine And.intro (fun (_ : true = true) => ?_) (fun (h : true = false) => Bool.noConfusion h) | refine And.intro (fun (h : false = true) => Bool.noConfusion h) (fun (_ : false = false) => ?_)
      rfl
  · cases h

end Go.Gm
