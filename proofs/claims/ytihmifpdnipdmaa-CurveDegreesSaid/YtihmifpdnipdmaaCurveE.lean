/-
  The curves of the program, part E: Box. Plain theorems; no condition.
-/
import Derived.Test.YtihmifpdnipdmaaCurveD
set_option linter.all false
namespace Go.Gm
open Go.Proofs

theorem cmpQ_neg (a b : Rat) : decide (cmpQ a b < 0) = decide (a < b) := by
  unfold cmpQ
  by_cases h1 : a < b
  · simp [h1]
  · by_cases h2 : b < a
    · rw [if_neg h1, if_pos h2]; simp [h1]
    · rw [if_neg h1, if_neg h2]; simp [h1]
theorem cmpQ_pos (a b : Rat) : decide (cmpQ a b > 0) = decide (b < a) := by
  unfold cmpQ
  by_cases h1 : a < b
  · have : ¬ b < a := fun h => Rat.lt_irrefl (Std.lt_trans h1 h)
    rw [if_pos h1]; simp [this]
  · by_cases h2 : b < a
    · rw [if_neg h1, if_pos h2]; simp [h2]
    · rw [if_neg h1, if_neg h2]; simp [h2]

def sLeast : List RV → Option (Prop × Res)
  | [.agg [.b (.val (.bool s)), .b (.nat l), .b (.nat t)], .agg [.b (.val (.bool s')), .b (.nat l'), .b (.nat t')]] => some (l.length ≤ 40000 ∧ t.length ≤ 40000 ∧ l'.length ≤ 40000 ∧ t'.length ≤ 40000, .r (.agg [.val (.bool (cond (decide (rq s' l' t' < rq s l t)) s' s)), .nat (cond (decide (rq s' l' t' < rq s l t)) l' l), .nat (cond (decide (rq s' l' t' < rq s l t)) t' t)]))
  | _ => none
theorem ok_least : Ok1 138 sLeast := by
  refine ok_of TP0_ok Try.func138 rfl (by kernel_rfl) ?_
  intro xs pre res h hp hlim
  unfold sLeast at h
  split at h
  · rename_i s l t s' l' t'
    cases h
    obtain ⟨h1, h2, h3, h4⟩ := hp
    refine And.intro (Nat.le_of_ble_eq_true rfl) ?_
    repeat first | refine And.intro rfl ?_ | refine Or.inl (And.intro rfl ?_) | refine Or.inr (And.intro rfl ?_) | refine And.intro (fun (_ : true = true) => ?_) (fun (h : true = false) => Bool.noConfusion h) | refine And.intro (fun (h : false = true) => Bool.noConfusion h) (fun (_ : false = false) => ?_)
    refine And.intro (show l'.length ≤ 40000 ∧ t'.length ≤ 40000 ∧ l.length ≤ 40000 ∧ t.length ≤ 40000 from ⟨h3, h4, h1, h2⟩) ?_
    repeat first | refine And.intro rfl ?_ | refine Or.inl (And.intro rfl ?_) | refine Or.inr (And.intro rfl ?_) | refine And.intro (fun (_ : true = true) => ?_) (fun (h : true = false) => Bool.noConfusion h) | refine And.intro (fun (h : false = true) => Bool.noConfusion h) (fun (_ : false = false) => ?_)
    refine And.intro (fun hc => ?_) (fun hc => ?_)
    · rw [cmpQ_neg] at hc
      rw [hc]
      repeat first | refine And.intro rfl ?_ | refine Or.inl (And.intro rfl ?_) | refine Or.inr (And.intro rfl ?_) | refine And.intro (fun (_ : true = true) => ?_) (fun (h : true = false) => Bool.noConfusion h) | refine And.intro (fun (h : false = true) => Bool.noConfusion h) (fun (_ : false = false) => ?_)
      rfl
    · rw [cmpQ_neg] at hc
      rw [hc]
      repeat first | refine And.intro rfl ?_ | refine Or.inl (And.intro rfl ?_) | refine Or.inr (And.intro rfl ?_) | refine And.intro (fun (_ : true = true) => ?_) (fun (h : true = false) => Bool.noConfusion h) | refine And.intro (fun (h : false = true) => Bool.noConfusion h) (fun (_ : false = false) => ?_)
      rfl
  · cases h
def sGreatest : List RV → Option (Prop × Res)
  | [.agg [.b (.val (.bool s)), .b (.nat l), .b (.nat t)], .agg [.b (.val (.bool s')), .b (.nat l'), .b (.nat t')]] => some (l.length ≤ 40000 ∧ t.length ≤ 40000 ∧ l'.length ≤ 40000 ∧ t'.length ≤ 40000, .r (.agg [.val (.bool (cond (decide (rq s l t < rq s' l' t')) s' s)), .nat (cond (decide (rq s l t < rq s' l' t')) l' l), .nat (cond (decide (rq s l t < rq s' l' t')) t' t)]))
  | _ => none
theorem ok_greatest : Ok1 139 sGreatest := by
  refine ok_of TP0_ok Try.func139 rfl (by kernel_rfl) ?_
  intro xs pre res h hp hlim
  unfold sGreatest at h
  split at h
  · rename_i s l t s' l' t'
    cases h
    obtain ⟨h1, h2, h3, h4⟩ := hp
    refine And.intro (Nat.le_of_ble_eq_true rfl) ?_
    repeat first | refine And.intro rfl ?_ | refine Or.inl (And.intro rfl ?_) | refine Or.inr (And.intro rfl ?_) | refine And.intro (fun (_ : true = true) => ?_) (fun (h : true = false) => Bool.noConfusion h) | refine And.intro (fun (h : false = true) => Bool.noConfusion h) (fun (_ : false = false) => ?_)
    refine And.intro (show l'.length ≤ 40000 ∧ t'.length ≤ 40000 ∧ l.length ≤ 40000 ∧ t.length ≤ 40000 from ⟨h3, h4, h1, h2⟩) ?_
    repeat first | refine And.intro rfl ?_ | refine Or.inl (And.intro rfl ?_) | refine Or.inr (And.intro rfl ?_) | refine And.intro (fun (_ : true = true) => ?_) (fun (h : true = false) => Bool.noConfusion h) | refine And.intro (fun (h : false = true) => Bool.noConfusion h) (fun (_ : false = false) => ?_)
    refine And.intro (fun hc => ?_) (fun hc => ?_)
    · rw [cmpQ_pos] at hc
      rw [hc]
      repeat first | refine And.intro rfl ?_ | refine Or.inl (And.intro rfl ?_) | refine Or.inr (And.intro rfl ?_) | refine And.intro (fun (_ : true = true) => ?_) (fun (h : true = false) => Bool.noConfusion h) | refine And.intro (fun (h : false = true) => Bool.noConfusion h) (fun (_ : false = false) => ?_)
      rfl
    · rw [cmpQ_pos] at hc
      rw [hc]
      repeat first | refine And.intro rfl ?_ | refine Or.inl (And.intro rfl ?_) | refine Or.inr (And.intro rfl ?_) | refine And.intro (fun (_ : true = true) => ?_) (fun (h : true = false) => Bool.noConfusion h) | refine And.intro (fun (h : false = true) => Bool.noConfusion h) (fun (_ : false = false) => ?_)
      rfl
  · cases h

def minR (a b : Rat) : Rat := cond (decide (b < a)) b a
def maxR (a b : Rat) : Rat := cond (decide (a < b)) b a
def loQ (a : Rat × Rat) (l : List (Rat × Rat)) : Rat × Rat := l.foldl (fun a p => (minR a.1 p.1, minR a.2 p.2)) a
def hiQ (a : Rat × Rat) (l : List (Rat × Rat)) : Rat × Rat := l.foldl (fun a p => (maxR a.1 p.1, maxR a.2 p.2)) a
theorem loQ_snoc (a p : Rat × Rat) (l : List (Rat × Rat)) : loQ a (l ++ [p]) = (minR (loQ a l).1 p.1, minR (loQ a l).2 p.2) := by simp [loQ]
theorem hiQ_snoc (a p : Rat × Rat) (l : List (Rat × Rat)) : hiQ a (l ++ [p]) = (maxR (hiQ a l).1 p.1, maxR (hiQ a l).2 p.2) := by simp [hiQ]
/-- The corners of the box of a curve. -/
def boxLo : List (Rat × Rat) → Rat × Rat
  | [] => (0, 0)
  | a :: l => loQ a l
def boxHi : List (Rat × Rat) → Rat × Rat
  | [] => (0, 0)
  | a :: l => hiQ a l

/-- One of two, coordinate by coordinate. -/
def pick2 (dx dy : Bool) (p q : PR) : PR := ⟨cond dx p.s q.s, cond dx p.l q.l, cond dx p.t q.t, cond dy p.z q.z, cond dy p.k q.k, cond dy p.u q.u⟩
theorem pick2_v (dx dy : Bool) (p q : PR) : (pick2 dx dy p q).v = (cond dx p.v.1 q.v.1, cond dy p.v.2 q.v.2) := by cases dx <;> cases dy <;> rfl
theorem pick2_le {n : Nat} (dx dy : Bool) {p q : PR} (hp : p.Le n) (hq : q.Le n) : (pick2 dx dy p q).Le n := by
  obtain ⟨h1, h2, h3, h4⟩ := hp
  obtain ⟨g1, g2, g3, g4⟩ := hq
  cases dx <;> cases dy
  · exact ⟨g1, g2, g3, g4⟩
  · exact ⟨g1, g2, h3, h4⟩
  · exact ⟨h1, h2, g3, g4⟩
  · exact ⟨h1, h2, h3, h4⟩

def sBox : List RV → Option (Prop × Res)
  | [.one (.sl 6 c)] => some (ShP 300 c, .t [.agg (dp (!okC c) (boxLo (valsOf c))), .agg (dp (!okC c) (boxHi (valsOf c))), .val (.int .i64 (cond (okC c) 0 1))])
  | _ => none

def TC4 : Table := [(138, sLeast), (139, sGreatest)] ++ TC2
theorem TC4_ok : TabOk TC4 := TabOk.append (TabOk.cons ok_least (TabOk.cons ok_greatest TabOk.nil)) TC2_ok

theorem resBx {p p' q q' : Rat × Rat} (h : p = p') (h' : q = q') : Res.t [.agg (dp false p), .agg (dp false q), .val (.int .i64 0)] = Res.t [.agg (dp false p'), .agg (dp false q'), .val (.int .i64 0)] := by rw [h, h']

set_option maxHeartbeats 2000000 in
theorem ok_Box : Ok1 95 sBox := by
  refine ok_of TC4_ok Try.func95 rfl (by kernel_rfl) ?_
  intro xs pre res h hp hlim
  unfold sBox at h
  split at h
  · rename_i c
    cases h
    have hsh := hp
    cases hv : okC c with
    | false =>
      refine And.intro (Nat.le_of_ble_eq_true rfl) ?_
      repeat first | refine And.intro rfl ?_ | refine Or.inl (And.intro rfl ?_) | refine Or.inr (And.intro rfl ?_) | refine And.intro (fun (_ : true = true) => ?_) (fun (h : true = false) => Bool.noConfusion h) | refine And.intro (fun (h : false = true) => Bool.noConfusion h) (fun (_ : false = false) => ?_)
      repeat first | refine And.intro rfl ?_ | refine And.intro True.intro ?_ | refine Or.inl (And.intro rfl ?_) | refine Or.inr (And.intro rfl ?_) | refine And.intro (fun (_ : true = true) => ?_) (fun (h : true = false) => Bool.noConfusion h) | refine And.intro (fun (h : false = true) => Bool.noConfusion h) (fun (_ : false = false) => ?_)
      refine And.intro (fun hc => ?_) (fun hc => ?_)
      · repeat first | refine And.intro rfl ?_ | refine And.intro True.intro ?_ | refine Or.inl (And.intro rfl ?_) | refine Or.inr (And.intro rfl ?_) | refine And.intro (fun (_ : true = true) => ?_) (fun (h : true = false) => Bool.noConfusion h) | refine And.intro (fun (h : false = true) => Bool.noConfusion h) (fun (_ : false = false) => ?_)
        rfl
      · rw [show decide (2 ≤ c.length ∧ c.length ≤ 4) = false from hv] at hc
        cases hc
    | true =>
      have hv' := of_decide_eq_true hv
      obtain ⟨ps, rfl, hps, hpl⟩ := sh_le hsh
      rw [← hpl] at hv'
      rw [valsOf_B]
      obtain ⟨p0, rs, rfl⟩ : ∃ p0 rs, ps = p0 :: rs := by
        cases ps with
        | nil => simp at hv'
        | cons p rs => exact ⟨p, rs, rfl⟩
      have h0 := hps p0 (List.mem_cons_self ..)
      have hrs : ∀ p, p ∈ rs → p.Le 300 := fun p hp => hps p (List.mem_cons_of_mem _ hp)
      have hrl : rs.length ≤ 3 := by have := hv'.2; simp at this; omega
      obtain ⟨vs, hvs⟩ : ∃ vs, vs = rs.map PR.v := ⟨_, rfl⟩
      have hvl : vs.length = rs.length := by rw [hvs, List.length_map]
      have elo : boxLo ((p0 :: rs).map PR.v) = loQ p0.v vs := by rw [hvs]; rfl
      have ehi : boxHi ((p0 :: rs).map PR.v) = hiQ p0.v vs := by rw [hvs]; rfl
      rw [elo, ehi]
      refine And.intro (Nat.le_of_ble_eq_true rfl) ?_
      repeat first | refine And.intro rfl ?_ | refine Or.inl (And.intro rfl ?_) | refine Or.inr (And.intro rfl ?_) | refine And.intro (fun (_ : true = true) => ?_) (fun (h : true = false) => Bool.noConfusion h) | refine And.intro (fun (h : false = true) => Bool.noConfusion h) (fun (_ : false = false) => ?_)
      repeat first | refine And.intro rfl ?_ | refine And.intro True.intro ?_ | refine Or.inl (And.intro rfl ?_) | refine Or.inr (And.intro rfl ?_) | refine And.intro (fun (_ : true = true) => ?_) (fun (h : true = false) => Bool.noConfusion h) | refine And.intro (fun (h : false = true) => Bool.noConfusion h) (fun (_ : false = false) => ?_)
      refine And.intro (fun hc => ?_) (fun hc => ?_)
      · rw [show decide (2 ≤ ((p0 :: rs).map ptB).length ∧ ((p0 :: rs).map ptB).length ≤ 4) = true from hv] at hc
        cases hc
      · repeat first | refine And.intro rfl ?_ | refine And.intro True.intro ?_ | refine Or.inl (And.intro rfl ?_) | refine Or.inr (And.intro rfl ?_) | refine And.intro (fun (_ : true = true) => ?_) (fun (h : true = false) => Bool.noConfusion h) | refine And.intro (fun (h : false = true) => Bool.noConfusion h) (fun (_ : false = false) => ?_)
        have hidx : 0 ≤ (0 : Int) ∧ (0 : Int) < ((((p0 :: rs).map ptB).length : Nat) : Int) := by rw [List.length_map]; simp
        refine Exists.intro ⟨[(0, .one (.sl 6 ((p0 :: rs).map ptB))), (2, .ptr 0 0), (3, .ptr 1 0)], ⟨[(38, ptC p0), (38, ptC p0)], []⟩⟩ (And.intro ?_ ?_)
        · repeat' first | exact trivial | exact hidx | rfl | refine And.intro ?_ ?_
        repeat first | refine And.intro rfl ?_ | refine And.intro True.intro ?_ | refine Or.inl (And.intro rfl ?_) | refine Or.inr (And.intro rfl ?_) | refine And.intro (fun (_ : true = true) => ?_) (fun (h : true = false) => Bool.noConfusion h) | refine And.intro (fun (h : false = true) => Bool.noConfusion h) (fun (_ : false = false) => ?_)
        refine And.intro (show 0 ≤ (1 : Int) ∧ (1 : Int) ≤ ((((p0 :: rs).map ptB).length : Nat) : Int) by rw [List.length_map, List.length_cons]; omega) ?_
        repeat first | refine And.intro rfl ?_ | refine And.intro True.intro ?_ | refine Or.inl (And.intro rfl ?_) | refine Or.inr (And.intro rfl ?_) | refine And.intro (fun (_ : true = true) => ?_) (fun (h : true = false) => Bool.noConfusion h) | refine And.intro (fun (h : false = true) => Bool.noConfusion h) (fun (_ : false = false) => ?_)
        refine Exists.intro {x : Nat × PR × PR // x.1 ≤ rs.length ∧ x.2.1.Le 300 ∧ x.2.2.Le 300 ∧ x.2.1.v = loQ p0.v (vs.take x.1) ∧ x.2.2.v = hiQ p0.v (vs.take x.1)} (Exists.intro (fun x => ⟨[(2, .ptr 0 0), (3, .ptr 1 0), (19, .one (.sl 6 (rs.map ptB))), (20, .val (.int .i64 ((rs.map ptB).length : Nat))), (21, .val (.int .i64 (x.1.1 : Nat)))], ⟨[(38, ptC x.1.2.1), (38, ptC x.1.2.2)], []⟩⟩) (Exists.intro (fun x => rs.length - x.1.1) (Exists.intro ⟨(0, p0, p0), Nat.zero_le _, h0, h0, rfl, rfl⟩ (And.intro ?_ ?_))))
        · repeat first | exact trivial | refine And.intro rfl ?_ | refine And.intro trivial ?_ | refine And.intro (And.intro rfl trivial) ?_ | refine And.intro (And.intro rfl (And.intro rfl trivial)) ?_
        · rintro ⟨⟨k, lo, hi⟩, hk, klo, khi, vlo, vhi⟩
          simp only at hk klo khi vlo vhi
          repeat first | refine And.intro rfl ?_ | refine Or.inl (And.intro rfl ?_) | refine Or.inr (And.intro rfl ?_) | refine And.intro (fun (_ : true = true) => ?_) (fun (h : true = false) => Bool.noConfusion h) | refine And.intro (fun (h : false = true) => Bool.noConfusion h) (fun (_ : false = false) => ?_)
          refine And.intro (fun hc => ?_) (fun hc => ?_)
          · have hk' : (k : Int) < (((rs.map ptB).length : Nat) : Int) := of_decide_eq_true hc
            rw [List.length_map] at hk'
            obtain ⟨p, hpp⟩ : ∃ p, p = rs.getD k PR.zero := ⟨_, rfl⟩
            have g1 : (rs.map ptB).getD (k : Int).toNat [] = ptB p := by rw [hpp]; exact getD_ptB rs k (by omega)
            have hm : p ∈ rs := by rw [hpp]; exact getD_mem' rs k PR.zero (by omega)
            have kp := (hrs p hm).mono (show 300 ≤ 40000 by decide)
            have klo' := klo.mono (show 300 ≤ 40000 by decide)
            have khi' := khi.mono (show 300 ≤ 40000 by decide)
            have evs : vs.take (k + 1) = vs.take k ++ [p.v] := by rw [take_snoc vs (0, 0) k (by omega), hvs, getD_v rs k (by omega), hpp]
            repeat first | refine And.intro rfl ?_ | refine Or.inl (And.intro rfl ?_) | refine Or.inr (And.intro rfl ?_) | refine And.intro (fun (_ : true = true) => ?_) (fun (h : true = false) => Bool.noConfusion h) | refine And.intro (fun (h : false = true) => Bool.noConfusion h) (fun (_ : false = false) => ?_)
            refine And.intro (show 0 ≤ (k : Int) ∧ (k : Int) < (((rs.map ptB).length : Nat) : Int) by rw [List.length_map]; omega) ?_
            rw [g1]
            repeat first | refine And.intro rfl ?_ | refine Or.inl (And.intro rfl ?_) | refine Or.inr (And.intro rfl ?_) | refine And.intro (fun (_ : true = true) => ?_) (fun (h : true = false) => Bool.noConfusion h) | refine And.intro (fun (h : false = true) => Bool.noConfusion h) (fun (_ : false = false) => ?_)
            refine And.intro (And.intro klo'.1 (And.intro klo'.2.1 (And.intro kp.1 kp.2.1))) ?_
            repeat first | refine And.intro rfl ?_ | refine Or.inl (And.intro rfl ?_) | refine Or.inr (And.intro rfl ?_) | refine And.intro (fun (_ : true = true) => ?_) (fun (h : true = false) => Bool.noConfusion h) | refine And.intro (fun (h : false = true) => Bool.noConfusion h) (fun (_ : false = false) => ?_)
            refine And.intro (And.intro klo'.2.2.1 (And.intro klo'.2.2.2 (And.intro kp.2.2.1 kp.2.2.2))) ?_
            repeat first | refine And.intro rfl ?_ | refine Or.inl (And.intro rfl ?_) | refine Or.inr (And.intro rfl ?_) | refine And.intro (fun (_ : true = true) => ?_) (fun (h : true = false) => Bool.noConfusion h) | refine And.intro (fun (h : false = true) => Bool.noConfusion h) (fun (_ : false = false) => ?_)
            refine And.intro (And.intro khi'.1 (And.intro khi'.2.1 (And.intro kp.1 kp.2.1))) ?_
            repeat first | refine And.intro rfl ?_ | refine Or.inl (And.intro rfl ?_) | refine Or.inr (And.intro rfl ?_) | refine And.intro (fun (_ : true = true) => ?_) (fun (h : true = false) => Bool.noConfusion h) | refine And.intro (fun (h : false = true) => Bool.noConfusion h) (fun (_ : false = false) => ?_)
            refine And.intro (And.intro khi'.2.2.1 (And.intro khi'.2.2.2 (And.intro kp.2.2.1 kp.2.2.2))) ?_
            repeat first | refine And.intro rfl ?_ | refine Or.inl (And.intro rfl ?_) | refine Or.inr (And.intro rfl ?_) | refine And.intro (fun (_ : true = true) => ?_) (fun (h : true = false) => Bool.noConfusion h) | refine And.intro (fun (h : false = true) => Bool.noConfusion h) (fun (_ : false = false) => ?_)
            refine Exists.intro ⟨(k + 1, pick2 (decide (p.v.1 < lo.v.1)) (decide (p.v.2 < lo.v.2)) p lo, pick2 (decide (hi.v.1 < p.v.1)) (decide (hi.v.2 < p.v.2)) p hi), (show k + 1 ≤ _ by omega), pick2_le _ _ (hrs p hm) klo, pick2_le _ _ (hrs p hm) khi, ?_, ?_⟩ (And.intro (show rs.length - (k + 1) < rs.length - k by omega) ?_)
            · show (pick2 _ _ p lo).v = loQ p0.v (vs.take (k + 1))
              rw [evs, loQ_snoc, ← vlo, pick2_v]
              rfl
            · show (pick2 _ _ p hi).v = hiQ p0.v (vs.take (k + 1))
              rw [evs, hiQ_snoc, ← vhi, pick2_v]
              rfl
            · repeat first | exact trivial | refine And.intro rfl ?_ | refine And.intro trivial ?_ | refine And.intro (And.intro rfl trivial) ?_ | refine And.intro (And.intro rfl (And.intro rfl trivial)) ?_
              exact And.intro (avI (show IntKind.i64.wrap ((k : Int) + 1) = ((k + 1 : Nat) : Int) by rw [wI (by omega) (by omega)]; omega)) trivial
          · have hk' : ¬ (k : Int) < (((rs.map ptB).length : Nat) : Int) := of_decide_eq_false hc
            rw [List.length_map] at hk'
            have klo' := klo.mono (show 300 ≤ 70000 by decide)
            have khi' := khi.mono (show 300 ≤ 70000 by decide)
            rw [List.take_of_length_le (by omega)] at vlo vhi
            repeat first | refine And.intro rfl ?_ | refine Or.inl (And.intro rfl ?_) | refine Or.inr (And.intro rfl ?_) | refine And.intro (fun (_ : true = true) => ?_) (fun (h : true = false) => Bool.noConfusion h) | refine And.intro (fun (h : false = true) => Bool.noConfusion h) (fun (_ : false = false) => ?_)
            refine And.intro klo' ?_
            repeat first | refine And.intro rfl ?_ | refine Or.inl (And.intro rfl ?_) | refine Or.inr (And.intro rfl ?_) | refine And.intro (fun (_ : true = true) => ?_) (fun (h : true = false) => Bool.noConfusion h) | refine And.intro (fun (h : false = true) => Bool.noConfusion h) (fun (_ : false = false) => ?_)
            refine And.intro khi' ?_
            repeat first | refine And.intro rfl ?_ | refine Or.inl (And.intro rfl ?_) | refine Or.inr (And.intro rfl ?_) | refine And.intro (fun (_ : true = true) => ?_) (fun (h : true = false) => Bool.noConfusion h) | refine And.intro (fun (h : false = true) => Bool.noConfusion h) (fun (_ : false = false) => ?_)
            exact resBx (p := lo.v) (q := hi.v) vlo vhi
  · cases h

end Go.Gm
