/-
  The statements about turns, part A. Plain theorems; no condition.
-/
import Derived.Test.YtihmifpdnipdmaaTurnE
set_option linter.all false
namespace Go.Gm
open Go.Proofs

def TL0 : Table := (37, sTrue0) :: TT2
theorem TL0_ok : TabOk TL0 := TabOk.cons ok_example12 TT2_ok

set_option linter.unusedVariables false

def sTurnResults : List RV → Option (Prop × Res)
  | [.agg [.b (.val (.bool f)), .b (.val (.int .i64 q))], .agg [.b (.val (.bool f')), .b (.val (.int .i64 q'))], .agg [.b (.val (.int .i64 x)), .b (.val (.int .i64 y))]] => some (InR q ∧ InR q' ∧ InR x ∧ InR y, .r (.val (.bool true)))
  | _ => none

set_option maxHeartbeats 1000000 in
theorem ok_TurnResults : Ok1 3 sTurnResults := by
  refine ok_of TL0_ok Try.func3 rfl (by kernel_rfl) ?_
  intro xs pre res h hp hlim
  unfold sTurnResults at h
  split at h
  · rename_i f q f' q' x y
    cases h
    refine And.intro (Nat.le_of_ble_eq_true rfl) ?_
    repeat first | refine And.intro rfl ?_ | refine And.intro True.intro ?_ | refine Or.inl (And.intro rfl ?_) | refine Or.inr (And.intro rfl ?_) | refine And.intro (fun (_ : true = true) => ?_) (fun (h : true = false) => Bool.noConfusion h) | refine And.intro (fun (h : false = true) => Bool.noConfusion h) (fun (_ : false = false) => ?_)
    refine Or.inl (And.intro (by simp) ?_)
    repeat first | refine And.intro rfl ?_ | refine And.intro True.intro ?_ | refine Or.inl (And.intro rfl ?_) | refine Or.inr (And.intro rfl ?_) | refine And.intro (fun (_ : true = true) => ?_) (fun (h : true = false) => Bool.noConfusion h) | refine And.intro (fun (h : false = true) => Bool.noConfusion h) (fun (_ : false = false) => ?_)
    refine Or.inl (And.intro (by simp) ?_)
    repeat first | refine And.intro rfl ?_ | refine And.intro True.intro ?_ | refine Or.inl (And.intro rfl ?_) | refine Or.inr (And.intro rfl ?_) | refine And.intro (fun (_ : true = true) => ?_) (fun (h : true = false) => Bool.noConfusion h) | refine And.intro (fun (h : false = true) => Bool.noConfusion h) (fun (_ : false = false) => ?_)
    refine Or.inl (And.intro (by simp) ?_)
    repeat first | refine And.intro rfl ?_ | refine And.intro True.intro ?_ | refine Or.inl (And.intro rfl ?_) | refine Or.inr (And.intro rfl ?_) | refine And.intro (fun (_ : true = true) => ?_) (fun (h : true = false) => Bool.noConfusion h) | refine And.intro (fun (h : false = true) => Bool.noConfusion h) (fun (_ : false = false) => ?_)
    refine Or.inl (And.intro (by simp) ?_)
    repeat first | refine And.intro rfl ?_ | refine And.intro True.intro ?_ | refine Or.inl (And.intro rfl ?_) | refine Or.inr (And.intro rfl ?_) | refine And.intro (fun (_ : true = true) => ?_) (fun (h : true = false) => Bool.noConfusion h) | refine And.intro (fun (h : false = true) => Bool.noConfusion h) (fun (_ : false = false) => ?_)
    rfl
  · cases h

def sTurnPolys : List RV → Option (Prop × Res)
  | [.agg [.b (.val (.bool f)), .b (.val (.int .i64 q))], .one (.sl 2 l)] => some (InR q ∧ IsSp l, .r (.val (.bool true)))
  | _ => none

set_option maxHeartbeats 1000000 in
theorem ok_TurnPolys : Ok1 5 sTurnPolys := by
  refine ok_of TL0_ok Try.func5 rfl (by kernel_rfl) ?_
  intro xs pre res h hp hlim
  unfold sTurnPolys at h
  split at h
  · rename_i f q l
    cases h
    obtain ⟨_, hl⟩ := hp
    refine And.intro (Nat.le_of_ble_eq_true rfl) ?_
    repeat first | refine And.intro rfl ?_ | refine And.intro True.intro ?_ | refine Or.inl (And.intro rfl ?_) | refine Or.inr (And.intro rfl ?_) | refine And.intro (fun (_ : true = true) => ?_) (fun (h : true = false) => Bool.noConfusion h) | refine And.intro (fun (h : false = true) => Bool.noConfusion h) (fun (_ : false = false) => ?_)
    refine And.intro (fun hc => ?_) (fun hc => ?_)
    · repeat first | refine And.intro rfl ?_ | refine And.intro True.intro ?_ | refine Or.inl (And.intro rfl ?_) | refine Or.inr (And.intro rfl ?_) | refine And.intro (fun (_ : true = true) => ?_) (fun (h : true = false) => Bool.noConfusion h) | refine And.intro (fun (h : false = true) => Bool.noConfusion h) (fun (_ : false = false) => ?_)
      rfl
    · have hlen : l.length ≤ 200 := by
        have : ¬ (l.length : Int) > 200 := of_decide_eq_false hc
        omega
      have hs : (spots l).length = l.length := by simp [spots]
      repeat first | refine And.intro rfl ?_ | refine And.intro True.intro ?_ | refine Or.inl (And.intro rfl ?_) | refine Or.inr (And.intro rfl ?_) | refine And.intro (fun (_ : true = true) => ?_) (fun (h : true = false) => Bool.noConfusion h) | refine And.intro (fun (h : false = true) => Bool.noConfusion h) (fun (_ : false = false) => ?_)
      refine And.intro (And.intro hl (by omega)) ?_
      repeat first | refine And.intro rfl ?_ | refine And.intro True.intro ?_ | refine Or.inl (And.intro rfl ?_) | refine Or.inr (And.intro rfl ?_) | refine And.intro (fun (_ : true = true) => ?_) (fun (h : true = false) => Bool.noConfusion h) | refine And.intro (fun (h : false = true) => Bool.noConfusion h) (fun (_ : false = false) => ?_)
      refine And.intro (And.intro hl (by omega)) ?_
      repeat first | refine And.intro rfl ?_ | refine And.intro True.intro ?_ | refine Or.inl (And.intro rfl ?_) | refine Or.inr (And.intro rfl ?_) | refine And.intro (fun (_ : true = true) => ?_) (fun (h : true = false) => Bool.noConfusion h) | refine And.intro (fun (h : false = true) => Bool.noConfusion h) (fun (_ : false = false) => ?_)
      refine And.intro (And.intro (isSp_map _) (And.intro (isSp_map _) (And.intro (by rw [List.length_map, polyL_len]; omega) (by rw [List.length_map, polyL_len]; omega)))) ?_
      repeat first | refine And.intro rfl ?_ | refine And.intro True.intro ?_ | refine Or.inl (And.intro rfl ?_) | refine Or.inr (And.intro rfl ?_) | refine And.intro (fun (_ : true = true) => ?_) (fun (h : true = false) => Bool.noConfusion h) | refine And.intro (fun (h : false = true) => Bool.noConfusion h) (fun (_ : false = false) => ?_)
      refine Or.inl (And.intro (by exact decide_eq_true rfl) ?_)
      repeat first | refine And.intro rfl ?_ | refine And.intro True.intro ?_ | refine Or.inl (And.intro rfl ?_) | refine Or.inr (And.intro rfl ?_) | refine And.intro (fun (_ : true = true) => ?_) (fun (h : true = false) => Bool.noConfusion h) | refine And.intro (fun (h : false = true) => Bool.noConfusion h) (fun (_ : false = false) => ?_)
      rfl
  · cases h

def sTurnGroup : List RV → Option (Prop × Res)
  | [.agg [.b (.val (.bool f)), .b (.val (.int .i64 q))], .agg [.b (.val (.bool f')), .b (.val (.int .i64 q'))], .agg [.b (.val (.bool f2)), .b (.val (.int .i64 q2))], .agg [.b (.val (.int .i64 x)), .b (.val (.int .i64 y))]] => some ((InR q ∧ InR q') ∧ InR q2 ∧ InR x ∧ InR y, .r (.val (.bool true)))
  | _ => none

theorem ng_ng {x : Int} (h : InR x) : ng (ng x) = x := by
  unfold ng
  rw [IntKind.wrap_i64, IntKind.wrap_i64]
  omega

theorem four (q : Int) : q % 4 = 0 ∨ q % 4 = 1 ∨ q % 4 = 2 ∨ q % 4 = 3 := by omega

theorem rotN0 (p : Int × Int) : rotN 0 p = p := rfl
theorem rotN1 (p : Int × Int) : rotN 1 p = (ng p.2, p.1) := rfl
theorem rotN2 (p : Int × Int) : rotN 2 p = (ng p.1, ng p.2) := rfl
theorem rotN3 (p : Int × Int) : rotN 3 p = (ng (ng p.2), ng p.1) := rfl

theorem ap_comp (fa : Bool) (qa : Int) (fb : Bool) (qb : Int) (x y : Int) (hx : InR x) (hy : InR y) : apZ (!(fa == fb)) (tq qa fb qb) (x, y) = apZ fb qb (apZ fa qa (x, y)) := by
  have nx := ng_ng hx
  have ny := ng_ng hy
  rcases four qa with h | h | h | h <;> rcases four qb with k | k | k | k <;> cases fa <;> cases fb <;> simp [apZ, tq, h, k, rotN0, rotN1, rotN2, rotN3, nx, ny]

theorem tq_assoc (qa : Int) (fb : Bool) (qb : Int) (fc : Bool) (qc : Int) : tq (tq qa fb qb) fc qc = tq qa (!(fb == fc)) (tq qb fc qc) := by
  cases fb <;> cases fc <;> simp [tq] <;> omega

theorem tq_inv (f : Bool) (q : Int) : tq q f (tinv f q) = 0 := by cases f <;> simp [tq, tinv] <;> omega
theorem tq_inv' (f : Bool) (q : Int) : tq (tinv f q) f q = 0 := by cases f <;> simp [tq, tinv] <;> omega
theorem tq_none (q : Int) : tq q false 0 = q % 4 := by simp [tq]
theorem none_tq (f : Bool) (q : Int) : tq 0 f q = q % 4 := by cases f <;> simp [tq]

theorem ap_inv (f : Bool) (q : Int) (x y : Int) (hx : InR x) (hy : InR y) : apZ f (tinv f q) (apZ f q (x, y)) = (x, y) := by
  have nx := ng_ng hx
  have ny := ng_ng hy
  rcases four q with h | h | h | h <;> cases f <;> simp [apZ, tinv, h, rotN0, rotN1, rotN2, rotN3, nx, ny]

theorem spEq {p p' : Int × Int} (h : p = p') : (p.1 == p'.1 && p.2 == p'.2) = true := by subst h; simp
theorem tnEq {f f' : Bool} {q q' : Int} (h : f = f') (h' : q = q') : (f == f' && q == q') = true := by subst h; subst h'; simp
theorem notF {b : Bool} (h : b = true) : (!b) = false := by rw [h]; rfl

attribute [local irreducible] apZ tq tinv

set_option maxHeartbeats 2000000 in
theorem ok_TurnGroup : Ok1 7 sTurnGroup := by
  refine ok_of TL0_ok Try.func7 rfl (by kernel_rfl) ?_
  intro xs pre res h hp hlim
  unfold sTurnGroup at h
  split at h
  · rename_i f q f' q' f2 q2 x y
    cases h
    obtain ⟨_, _, hx, hy⟩ := hp
    refine And.intro (Nat.le_of_ble_eq_true rfl) ?_
    repeat first | refine And.intro rfl ?_ | refine And.intro True.intro ?_ | refine Or.inl (And.intro rfl ?_) | refine Or.inr (And.intro rfl ?_) | refine And.intro (fun (_ : true = true) => ?_) (fun (h : true = false) => Bool.noConfusion h) | refine And.intro (fun (h : false = true) => Bool.noConfusion h) (fun (_ : false = false) => ?_)
    refine Or.inl (And.intro (by exact notF (spEq (ap_comp f q f' q' x y hx hy))) ?_)
    repeat first | refine And.intro rfl ?_ | refine And.intro True.intro ?_ | refine Or.inl (And.intro rfl ?_) | refine Or.inr (And.intro rfl ?_) | refine And.intro (fun (_ : true = true) => ?_) (fun (h : true = false) => Bool.noConfusion h) | refine And.intro (fun (h : false = true) => Bool.noConfusion h) (fun (_ : false = false) => ?_)
    refine And.intro (fun hc => ?_) (fun hc => ?_)
    · exfalso
      rw [notF (tnEq (by cases f <;> cases f' <;> cases f2 <;> rfl) (tq_assoc q f' q' f2 q2))] at hc
      cases hc
    · repeat first | refine And.intro rfl ?_ | refine And.intro True.intro ?_ | refine Or.inl (And.intro rfl ?_) | refine Or.inr (And.intro rfl ?_) | refine And.intro (fun (_ : true = true) => ?_) (fun (h : true = false) => Bool.noConfusion h) | refine And.intro (fun (h : false = true) => Bool.noConfusion h) (fun (_ : false = false) => ?_)
      refine Or.inl (And.intro (by exact notF (tnEq (by cases f <;> rfl) (tq_none q))) ?_)
      repeat first | refine And.intro rfl ?_ | refine And.intro True.intro ?_ | refine Or.inl (And.intro rfl ?_) | refine Or.inr (And.intro rfl ?_) | refine And.intro (fun (_ : true = true) => ?_) (fun (h : true = false) => Bool.noConfusion h) | refine And.intro (fun (h : false = true) => Bool.noConfusion h) (fun (_ : false = false) => ?_)
      refine Or.inl (And.intro (by exact notF (tnEq (by cases f <;> rfl) (none_tq f q))) ?_)
      repeat first | refine And.intro rfl ?_ | refine And.intro True.intro ?_ | refine Or.inl (And.intro rfl ?_) | refine Or.inr (And.intro rfl ?_) | refine And.intro (fun (_ : true = true) => ?_) (fun (h : true = false) => Bool.noConfusion h) | refine And.intro (fun (h : false = true) => Bool.noConfusion h) (fun (_ : false = false) => ?_)
      refine Or.inl (And.intro (by exact notF (tnEq (by cases f <;> rfl) (tq_inv f q))) ?_)
      repeat first | refine And.intro rfl ?_ | refine And.intro True.intro ?_ | refine Or.inl (And.intro rfl ?_) | refine Or.inr (And.intro rfl ?_) | refine And.intro (fun (_ : true = true) => ?_) (fun (h : true = false) => Bool.noConfusion h) | refine And.intro (fun (h : false = true) => Bool.noConfusion h) (fun (_ : false = false) => ?_)
      refine And.intro (fun hc => ?_) (fun hc => ?_)
      · exfalso
        rw [notF (tnEq (by cases f <;> rfl) (tq_inv' f q))] at hc
        cases hc
      · repeat first | refine And.intro rfl ?_ | refine And.intro True.intro ?_ | refine Or.inl (And.intro rfl ?_) | refine Or.inr (And.intro rfl ?_) | refine And.intro (fun (_ : true = true) => ?_) (fun (h : true = false) => Bool.noConfusion h) | refine And.intro (fun (h : false = true) => Bool.noConfusion h) (fun (_ : false = false) => ?_)
        refine Or.inl (And.intro (by exact spEq (ap_inv f q x y hx hy)) ?_)
        repeat first | refine And.intro rfl ?_ | refine And.intro True.intro ?_ | refine Or.inl (And.intro rfl ?_) | refine Or.inr (And.intro rfl ?_) | refine And.intro (fun (_ : true = true) => ?_) (fun (h : true = false) => Bool.noConfusion h) | refine And.intro (fun (h : false = true) => Bool.noConfusion h) (fun (_ : false = false) => ?_)
        rfl
  · cases h

end Go.Gm
