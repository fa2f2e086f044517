/-
  Lists of points, plain: what their cells stand for, and the points that divide the ways between neighbours. No program in sight.
-/
import Derived.Test.YtihmifpdnipdmaaPt
set_option linter.all false
namespace Go.Gm
open Go.Proofs

/-- The cells of a point in any form. -/
structure PR where
  s : Bool
  l : List Nat
  t : List Nat
  z : Bool
  k : List Nat
  u : List Nat

def PR.zero : PR := ⟨false, [], [], false, [], []⟩
def ptB (p : PR) : List BV := [.val (.bool p.s), .nat p.l, .nat p.t, .val (.bool p.z), .nat p.k, .nat p.u]
abbrev ptC (p : PR) : List CV := [.val (.bool p.s), .nat p.l, .nat p.t, .val (.bool p.z), .nat p.k, .nat p.u]
/-- What they stand for. -/
def PR.v (p : PR) : Rat × Rat := (rq p.s p.l p.t, rq p.z p.k p.u)
/-- The normal form. -/
def prQ (p : Rat × Rat) : PR := ⟨decide (p.1.num < 0), dg p.1.num.natAbs, dg p.1.den, decide (p.2.num < 0), dg p.2.num.natAbs, dg p.2.den⟩
theorem prQ_v (p : Rat × Rat) : (prQ p).v = p := by simp only [PR.v, prQ, rq_cq]
theorem prQ_map (l : List (Rat × Rat)) : (l.map prQ).map PR.v = l := by
  rw [List.map_map]
  conv => rhs; rw [← List.map_id l]
  exact List.map_congr_left (fun p _ => prQ_v p)

def ptOf : List BV → PR
  | [.val (.bool s), .nat l, .nat t, .val (.bool z), .nat k, .nat u] => ⟨s, l, t, z, k, u⟩
  | _ => PR.zero
theorem ptOf_B (p : PR) : ptOf (ptB p) = p := rfl
abbrev ptsOf (l : List (List BV)) : List PR := l.map ptOf
theorem ptsOf_B (ps : List PR) : ptsOf (ps.map ptB) = ps := by
  unfold ptsOf
  rw [List.map_map]
  conv => rhs; rw [← List.map_id ps]
  exact List.map_congr_left (fun p _ => ptOf_B p)
/-- A list of points, cell by cell. -/
def IsP (l : List (List BV)) : Prop := l = (ptsOf l).map ptB
theorem isP_B (ps : List PR) : IsP (ps.map ptB) := by unfold IsP; rw [ptsOf_B]
/-- What they stand for. -/
abbrev valsOf (l : List (List BV)) : List (Rat × Rat) := (ptsOf l).map PR.v
theorem valsOf_B (ps : List PR) : valsOf (ps.map ptB) = ps.map PR.v := by unfold valsOf; rw [ptsOf_B]
theorem valsOf_Q (ps : List (Rat × Rat)) : valsOf ((ps.map prQ).map ptB) = ps := by rw [valsOf_B, prQ_map]

/-- How long the limbs are. -/
def PR.Le (n : Nat) (p : PR) : Prop := p.l.length ≤ n ∧ p.t.length ≤ n ∧ p.k.length ≤ n ∧ p.u.length ≤ n
def PR.Lm (p : PR) : Prop := Lim p.l ∧ Lim p.t ∧ Lim p.k ∧ Lim p.u
theorem PR.Le.mono {n m : Nat} {p : PR} (h : p.Le n) (hm : n ≤ m) : p.Le m := ⟨Nat.le_trans h.1 hm, Nat.le_trans h.2.1 hm, Nat.le_trans h.2.2.1 hm, Nat.le_trans h.2.2.2 hm⟩
theorem lm_of : ∀ {ps : List PR}, limBB (ps.map ptB) → ∀ p, p ∈ ps → p.Lm
  | [], _, p, hp => by cases hp
  | q :: ps, h, p, hp => by
    rcases List.mem_cons.1 hp with rfl | hp
    · obtain ⟨⟨_, h1, h2, _, h3, h4, _⟩, _⟩ := h
      exact ⟨h1, h2, h3, h4⟩
    · exact lm_of h.2 p hp

/-- Both coordinates have short terms. -/
def Sp (n : Nat) (p : Rat × Rat) : Prop := Sz n p.1 ∧ Sz n p.2
theorem Sp.mono {n m : Nat} {p : Rat × Rat} (h : Sp n p) (hm : n ≤ m) : Sp m p := ⟨h.1.mono hm, h.2.mono hm⟩
theorem PR.sp {n : Nat} {p : PR} (h : p.Lm) (k : p.Le n) : Sp (n + 1) p.v := ⟨Sz.rq h.1 h.2.1 k.1 k.2.1, Sz.rq h.2.2.1 h.2.2.2 k.2.2.1 k.2.2.2⟩
theorem prQ_le {n m : Nat} {p : Rat × Rat} (h : Sp n p) (hm : n ≤ m) : (prQ p).Le m := ⟨h.1.lenN hm, h.1.lenD hm, h.2.lenN hm, h.2.lenD hm⟩
theorem prQ_lm (p : Rat × Rat) : (prQ p).Lm := ⟨dg_lim _, dg_lim _, dg_lim _, dg_lim _⟩

/-- The point at t of a way. -/
def onP (a b : Rat × Rat) (t : Rat) : Rat × Rat := (a.1 + (b.1 - a.1) * t, a.2 + (b.2 - a.2) * t)
theorem Sp.on {n m : Nat} {a b : Rat × Rat} {t : Rat} (ha : Sp n a) (hb : Sp n b) (ht : Sz m t) : Sp (3 * n + m + 3) (onP a b t) :=
  ⟨(ha.1.add ((hb.1.sub ha.1).mul ht)).mono (by omega), (ha.2.add ((hb.2.sub ha.2).mul ht)).mono (by omega)⟩

/-- The points that divide the ways between neighbours. -/
def divQ : List (Rat × Rat) → Rat → List (Rat × Rat)
  | a :: b :: l, t => onP a b t :: divQ (b :: l) t
  | _, _ => []
theorem divQ_len : ∀ (l : List (Rat × Rat)) (t : Rat), (divQ l t).length = l.length - 1
  | [], _ => rfl
  | [_], _ => rfl
  | a :: b :: l, t => by simp [divQ, divQ_len (b :: l) t]
theorem divQ_get : ∀ (l : List (Rat × Rat)) (t : Rat) (i : Nat) (d : Rat × Rat), i + 1 < l.length → (divQ l t).getD i d = onP (l.getD i d) (l.getD (i + 1) d) t
  | [], _, _, _, h => by simp at h
  | [_], _, _, _, h => by simp at h
  | a :: b :: l, t, 0, d, _ => rfl
  | a :: b :: l, t, i + 1, d, h => by
    have := divQ_get (b :: l) t i d (by simpa using h)
    simpa [divQ] using this

def lvlQ : Nat → List (Rat × Rat) → Rat → List (List (Rat × Rat))
  | 0, _, _ => []
  | k + 1, l, t => divQ l t :: lvlQ k (divQ l t) t
theorem lvlQ_len : ∀ (k : Nat) (l : List (Rat × Rat)) (t : Rat), (lvlQ k l t).length = k
  | 0, _, _ => rfl
  | k + 1, l, t => by simp [lvlQ, lvlQ_len k]

/-- A list of points in normal form. -/
abbrev nrm (l : List (Rat × Rat)) : List PR := l.map prQ

/-- All the lists that a division makes, the first as it is. -/
def allL (ps : List PR) (t : Rat) : List (List PR) := ps :: (lvlQ (ps.length - 1) (ps.map PR.v) t).map nrm

theorem getD_ptB (ps : List PR) (i : Nat) (hi : i < ps.length) : (ps.map ptB).getD i [] = ptB (ps.getD i PR.zero) := by
  simp [List.getD_eq_getElem?_getD, hi]
theorem getD_v (ps : List PR) (i : Nat) (hi : i < ps.length) (d : Rat × Rat) : (ps.map PR.v).getD i d = (ps.getD i PR.zero).v := by
  simp [List.getD_eq_getElem?_getD, hi]
theorem getD_mem' {α : Type} (l : List α) (i : Nat) (d : α) (hi : i < l.length) : l.getD i d ∈ l := by
  rw [List.getD_eq_getElem?_getD, List.getElem?_eq_getElem hi]
  exact List.getElem_mem hi
theorem set_midG {α : Type} (out : List α) (m : Nat) (z v : α) {i : Nat} (hi : out.length = i) : (out ++ List.replicate (m + 1) z).set i v = (out ++ [v]) ++ List.replicate m z := by
  subst hi
  rw [List.set_append_right _ _ (Nat.le_refl _), List.replicate_succ]
  simp
theorem take_snoc {α : Type} (l : List α) (d : α) (k : Nat) (hk : k < l.length) : l.take (k + 1) = l.take k ++ [l.getD k d] := by
  rw [List.take_succ_eq_append_getElem hk, List.getD_eq_getElem?_getD, List.getElem?_eq_getElem hk]
  rfl
theorem rwSl {e : TypeId} {n : Nat} {l l' : List (List BV)} (h : l = l') : Rw.s e n l = Rw.s e n l' := by rw [h]
theorem rwLl {e : TypeId} {n : Nat} {l l' : List (List (List BV))} (h : l = l') : Rw.ll e n l = Rw.ll e n l' := by rw [h]
theorem avSl {n : Nat} {l l' : List (List BV)} (h : l = l') : AV.one (.sl n l) = AV.one (.sl n l') := by rw [h]
theorem resSll {n : Nat} {l l' : List (List (List BV))} (h : l = l') : Res.r (.one (.sll n l)) = Res.r (.one (.sll n l')) := by rw [h]

/-- How long the terms may be after some divisions. -/
def sB : Nat → Nat
  | 0 => 300
  | 1 => 1207
  | 2 => 3928
  | _ => 12091
theorem sB_step {d : Nat} (hd : d ≤ 2) {p q : PR} {t : Rat} (hp : p.Lm) (hq : q.Lm) (kp : p.Le (sB d)) (kq : q.Le (sB d)) (ht : Sz 301 t) : (prQ (onP p.v q.v t)).Le (sB (d + 1)) := by
  match d, hd with
  | 0, _ => exact prQ_le ((PR.sp hp kp).on (PR.sp hq kq) ht) (by decide)
  | 1, _ => exact prQ_le ((PR.sp hp kp).on (PR.sp hq kq) ht) (by decide)
  | 2, _ => exact prQ_le ((PR.sp hp kp).on (PR.sp hq kq) ht) (by decide)
theorem sB_le {d : Nat} (hd : d ≤ 2) : sB d ≤ 4000 := by
  match d, hd with
  | 0, _ => decide
  | 1, _ => decide
  | 2, _ => decide

end Go.Gm
