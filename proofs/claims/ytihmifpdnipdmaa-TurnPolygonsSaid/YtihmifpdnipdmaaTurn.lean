/-
  The turns of the program. Plain theorems; no condition.
-/
import Derived.Test.YtihmifpdnipdmaaPt0
set_option linter.all false
namespace Go.Gm
open Go.Proofs

theorem and3 (n : Int) : bits .and .i64 n 3 = n % 4 := by
  have hb : bits .and .i64 n 3 = IntKind.i64.wrap ((BitVec.ofInt 64 n &&& BitVec.ofInt 64 3).toNat : Int) := rfl
  have h3 : (BitVec.ofInt 64 3).toNat = 3 := by decide
  rw [hb, BitVec.toNat_and, h3, show (3 : Nat) = 2 ^ 2 - 1 from rfl, Nat.and_two_pow_sub_one_eq_mod, BitVec.toNat_ofInt]
  rw [wI (by omega) (by omega)]
  omega

abbrev CT (f : Bool) (q : Int) : RV := .agg [.val (.bool f), .val (.int .i64 q)]
theorem resTn {f f' : Bool} {q q' : Int} (h : f = f') (h' : q = q') : Res.r (CT f q) = Res.r (CT f' q') := by rw [h, h']

def sTurnNorm : List RV → Option (Prop × Res)
  | [.agg [.b (.val (.bool f)), .b (.val (.int .i64 q))]] => some (True, .r (CT f (q % 4)))
  | _ => none

theorem ok_turnNorm : Ok1 29 sTurnNorm := by
  refine ok_of TabOk.nil Try.func29 rfl (by kernel_rfl) ?_
  intro xs pre res h hp hlim
  unfold sTurnNorm at h
  split at h
  · rename_i f q
    cases h
    refine And.intro (Nat.le_of_ble_eq_true rfl) ?_
    repeat first | refine And.intro rfl ?_ | refine Or.inl (And.intro rfl ?_) | refine Or.inr (And.intro rfl ?_) | refine And.intro (fun (_ : true = true) => ?_) (fun (h : true = false) => Bool.noConfusion h) | refine And.intro (fun (h : false = true) => Bool.noConfusion h) (fun (_ : false = false) => ?_)
    exact resTn rfl (and3 q)
  · cases h

/-- What '-x' gives. -/
def ng (x : Int) : Int := IntKind.i64.wrap (0 - x)

def rotN : Nat → Int × Int → Int × Int
  | 0, p => p
  | k + 1, p => (ng (rotN k p).2, (rotN k p).1)

/-- A turn of a spot. -/
def apZ (f : Bool) (q : Int) (p : Int × Int) : Int × Int := rotN (q % 4).toNat (cond f (ng p.1) p.1, p.2)

abbrev CS (p : Int × Int) : RV := .agg [.val (.int .i64 p.1), .val (.int .i64 p.2)]
theorem resSp {p p' : Int × Int} (h : p = p') : Res.r (CS p) = Res.r (CS p') := by rw [h]

def sApply : List RV → Option (Prop × Res)
  | [.agg [.b (.val (.bool f)), .b (.val (.int .i64 q))], .agg [.b (.val (.int .i64 x)), .b (.val (.int .i64 y))]] => some (True, .r (CS (apZ f q (x, y))))
  | _ => none


theorem ok_turnApply : Ok1 31 sApply := by
  refine ok_of TabOk.nil Try.func31 rfl (by kernel_rfl) ?_
  intro xs pre res h hp hlim
  unfold sApply at h
  split at h
  · rename_i f q x y
    cases h
    refine And.intro (Nat.le_of_ble_eq_true rfl) ?_
    cases f
    · repeat first | refine And.intro rfl ?_ | refine Or.inl (And.intro rfl ?_) | refine Or.inr (And.intro rfl ?_) | refine And.intro (fun (_ : true = true) => ?_) (fun (h : true = false) => Bool.noConfusion h) | refine And.intro (fun (h : false = true) => Bool.noConfusion h) (fun (_ : false = false) => ?_)
      refine Exists.intro {k : Nat // k ≤ (q % 4).toNat} (Exists.intro (fun k => ⟨[(2, .ptr 0 0), (3, .ptr 1 0), (4, .ptr 2 0), (13, .val (.int .i64 (q % 4))), (14, .val (.int .i64 (k.1 : Nat)))], ⟨[(23, [.val (.bool false), .val (.int .i64 q)]), (25, [.val (.int .i64 (rotN k.1 (x, y)).1), .val (.int .i64 (rotN k.1 (x, y)).2)]), (25, [.val (.int .i64 0), .val (.int .i64 0)])], []⟩⟩) (Exists.intro (fun k => (q % 4).toNat - k.1) (Exists.intro ⟨0, Nat.zero_le _⟩ (And.intro ?_ ?_))))
      · repeat first | exact trivial | refine And.intro rfl ?_ | refine And.intro trivial ?_ | refine And.intro (And.intro rfl trivial) ?_ | refine And.intro (And.intro rfl (And.intro rfl trivial)) ?_
        refine And.intro (avI (and3 q)) ?_
        repeat first | exact trivial | refine And.intro rfl ?_ | refine And.intro trivial ?_ | refine And.intro (And.intro rfl trivial) ?_ | refine And.intro (And.intro rfl (And.intro rfl trivial)) ?_
      · rintro ⟨k, hk⟩
        repeat first | refine And.intro rfl ?_ | refine Or.inl (And.intro rfl ?_) | refine Or.inr (And.intro rfl ?_) | refine And.intro (fun (_ : true = true) => ?_) (fun (h : true = false) => Bool.noConfusion h) | refine And.intro (fun (h : false = true) => Bool.noConfusion h) (fun (_ : false = false) => ?_)
        refine And.intro (fun hc => ?_) (fun hc => ?_)
        · have hk' : (k : Int) < q % 4 := of_decide_eq_true hc
          repeat first | refine And.intro rfl ?_ | refine Or.inl (And.intro rfl ?_) | refine Or.inr (And.intro rfl ?_) | refine And.intro (fun (_ : true = true) => ?_) (fun (h : true = false) => Bool.noConfusion h) | refine And.intro (fun (h : false = true) => Bool.noConfusion h) (fun (_ : false = false) => ?_)
          refine Exists.intro ⟨k + 1, by omega⟩ (And.intro (show (q % 4).toNat - (k + 1) < (q % 4).toNat - k by omega) ?_)
          repeat first | exact trivial | refine And.intro rfl ?_ | refine And.intro trivial ?_ | refine And.intro (And.intro rfl trivial) ?_ | refine And.intro (And.intro rfl (And.intro rfl trivial)) ?_
          refine And.intro (avI (show IntKind.i64.wrap ((k : Int) + 1) = ((k + 1 : Nat) : Int) by rw [wI (by omega) (by omega)]; omega)) ?_
          repeat first | exact trivial | refine And.intro rfl ?_ | refine And.intro trivial ?_ | refine And.intro (And.intro rfl trivial) ?_ | refine And.intro (And.intro rfl (And.intro rfl trivial)) ?_
        · have hk' : ¬ (k : Int) < q % 4 := of_decide_eq_false hc
          have hk2 : k = (q % 4).toNat := by omega
          subst hk2
          repeat first | refine And.intro rfl ?_ | refine Or.inl (And.intro rfl ?_) | refine Or.inr (And.intro rfl ?_) | refine And.intro (fun (_ : true = true) => ?_) (fun (h : true = false) => Bool.noConfusion h) | refine And.intro (fun (h : false = true) => Bool.noConfusion h) (fun (_ : false = false) => ?_)
          rfl
    · repeat first | refine And.intro rfl ?_ | refine Or.inl (And.intro rfl ?_) | refine Or.inr (And.intro rfl ?_) | refine And.intro (fun (_ : true = true) => ?_) (fun (h : true = false) => Bool.noConfusion h) | refine And.intro (fun (h : false = true) => Bool.noConfusion h) (fun (_ : false = false) => ?_)
      refine Exists.intro {k : Nat // k ≤ (q % 4).toNat} (Exists.intro (fun k => ⟨[(2, .ptr 0 0), (3, .ptr 1 0), (4, .ptr 2 0), (13, .val (.int .i64 (q % 4))), (14, .val (.int .i64 (k.1 : Nat)))], ⟨[(23, [.val (.bool true), .val (.int .i64 q)]), (25, [.val (.int .i64 (rotN k.1 (ng x, y)).1), .val (.int .i64 (rotN k.1 (ng x, y)).2)]), (25, [.val (.int .i64 0), .val (.int .i64 0)])], []⟩⟩) (Exists.intro (fun k => (q % 4).toNat - k.1) (Exists.intro ⟨0, Nat.zero_le _⟩ (And.intro ?_ ?_))))
      · repeat first | exact trivial | refine And.intro rfl ?_ | refine And.intro trivial ?_ | refine And.intro (And.intro rfl trivial) ?_ | refine And.intro (And.intro rfl (And.intro rfl trivial)) ?_
        refine And.intro (avI (and3 q)) ?_
        repeat first | exact trivial | refine And.intro rfl ?_ | refine And.intro trivial ?_ | refine And.intro (And.intro rfl trivial) ?_ | refine And.intro (And.intro rfl (And.intro rfl trivial)) ?_
      · rintro ⟨k, hk⟩
        repeat first | refine And.intro rfl ?_ | refine Or.inl (And.intro rfl ?_) | refine Or.inr (And.intro rfl ?_) | refine And.intro (fun (_ : true = true) => ?_) (fun (h : true = false) => Bool.noConfusion h) | refine And.intro (fun (h : false = true) => Bool.noConfusion h) (fun (_ : false = false) => ?_)
        refine And.intro (fun hc => ?_) (fun hc => ?_)
        · have hk' : (k : Int) < q % 4 := of_decide_eq_true hc
          repeat first | refine And.intro rfl ?_ | refine Or.inl (And.intro rfl ?_) | refine Or.inr (And.intro rfl ?_) | refine And.intro (fun (_ : true = true) => ?_) (fun (h : true = false) => Bool.noConfusion h) | refine And.intro (fun (h : false = true) => Bool.noConfusion h) (fun (_ : false = false) => ?_)
          refine Exists.intro ⟨k + 1, by omega⟩ (And.intro (show (q % 4).toNat - (k + 1) < (q % 4).toNat - k by omega) ?_)
          repeat first | exact trivial | refine And.intro rfl ?_ | refine And.intro trivial ?_ | refine And.intro (And.intro rfl trivial) ?_ | refine And.intro (And.intro rfl (And.intro rfl trivial)) ?_
          refine And.intro (avI (show IntKind.i64.wrap ((k : Int) + 1) = ((k + 1 : Nat) : Int) by rw [wI (by omega) (by omega)]; omega)) ?_
          repeat first | exact trivial | refine And.intro rfl ?_ | refine And.intro trivial ?_ | refine And.intro (And.intro rfl trivial) ?_ | refine And.intro (And.intro rfl (And.intro rfl trivial)) ?_
        · have hk' : ¬ (k : Int) < q % 4 := of_decide_eq_false hc
          have hk2 : k = (q % 4).toNat := by omega
          subst hk2
          repeat first | refine And.intro rfl ?_ | refine Or.inl (And.intro rfl ?_) | refine Or.inr (And.intro rfl ?_) | refine And.intro (fun (_ : true = true) => ?_) (fun (h : true = false) => Bool.noConfusion h) | refine And.intro (fun (h : false = true) => Bool.noConfusion h) (fun (_ : false = false) => ?_)
          rfl
  · cases h

end Go.Gm
