/-
  The statements about turns, part C. Plain theorems; no condition.
-/
import Derived.Test.YtihmifpdnipdmaaLawB
set_option linter.all false
namespace Go.Gm
open Go.Proofs

def sTurnAgrees : List RV → Option (Prop × Res)
  | [.agg [.b (.val (.bool f)), .b (.val (.int .i64 q))], .agg [.b (.val (.int .i64 x)), .b (.val (.int .i64 y))]] => some (InR q ∧ InR x ∧ InR y, .r (.val (.bool true)))
  | _ => none

theorem ng_InR (x : Int) : InR (ng x) := by
  unfold ng
  rw [IntKind.wrap_i64]
  omega
theorem ng_neg {x : Int} (h : InR x) (h' : x ≠ -9223372036854775808) : ng x = -x := by
  unfold ng
  rw [IntKind.wrap_i64]
  omega
/-- Neither coordinate is the least integer. -/
abbrev Md (x : Int) : Prop := -9223372036854775808 < x ∧ x < 9223372036854775808
theorem ng_md {x : Int} (h : Md x) : ng x = -x := ng_neg ⟨by omega, by omega⟩ (by omega)
theorem md_neg {x : Int} (h : Md x) : Md (-x) := by omega

theorem rot_agrees {x y : Int} (hx : Md x) (hy : Md y) : ∀ k, Md (rotN k (x, y)).1 ∧ Md (rotN k (x, y)).2 ∧ rotQ k ((x : Rat), (y : Rat)) = (((rotN k (x, y)).1 : Rat), ((rotN k (x, y)).2 : Rat))
  | 0 => ⟨hx, hy, rfl⟩
  | k + 1 => by
    obtain ⟨h1, h2, h3⟩ := rot_agrees hx hy k
    refine ⟨?_, h1, ?_⟩
    · show Md (ng (rotN k (x, y)).2)
      rw [ng_md h2]
      exact md_neg h2
    · show (-(rotQ k ((x : Rat), (y : Rat))).2, (rotQ k ((x : Rat), (y : Rat))).1) = (((ng (rotN k (x, y)).2 : Int) : Rat), ((rotN k (x, y)).1 : Rat))
      rw [h3, ng_md h2, Rat.intCast_neg]

theorem ap_agrees (f : Bool) (q : Int) {x y : Int} (hx : Md x) (hy : Md y) : Md (apZ f q (x, y)).1 ∧ Md (apZ f q (x, y)).2 ∧ apQ f q ((x : Rat), (y : Rat)) = (((apZ f q (x, y)).1 : Rat), ((apZ f q (x, y)).2 : Rat)) := by
  unfold apZ apQ
  cases f
  · exact rot_agrees hx hy _
  · have := rot_agrees (md_neg hx) hy (q % 4).toNat
    show Md (rotN (q % 4).toNat (ng x, y)).1 ∧ Md (rotN (q % 4).toNat (ng x, y)).2 ∧ rotQ (q % 4).toNat (-(x : Rat), (y : Rat)) = (((rotN (q % 4).toNat (ng x, y)).1 : Rat), ((rotN (q % 4).toNat (ng x, y)).2 : Rat))
    rw [ng_md hx, ← Rat.intCast_neg]
    exact this

attribute [local irreducible] apZ apQ

theorem rqc_eq (q : Rat) : rqc q = q := rq_cq q

theorem whole_len {x : Int} (h : InR x) : (dg (x : Rat).num.natAbs).length ≤ 40000 ∧ (dg (x : Rat).den).length ≤ 40000 := ⟨(whole_sz h).lenN (by decide), (whole_sz h).lenD (by decide)⟩

set_option maxHeartbeats 2000000 in
theorem ok_TurnAgrees : Ok1 11 sTurnAgrees := by
  refine ok_of TL1_ok Try.func11 rfl (by kernel_rfl) ?_
  intro xs pre res h hp hlim
  unfold sTurnAgrees at h
  split at h
  · rename_i f q x y
    cases h
    obtain ⟨_, hx, hy⟩ := hp
    refine And.intro (Nat.le_of_ble_eq_true rfl) ?_
    repeat first | refine And.intro rfl ?_ | refine And.intro True.intro ?_ | refine Or.inl (And.intro rfl ?_) | refine Or.inr (And.intro rfl ?_) | refine And.intro (fun (_ : true = true) => ?_) (fun (h : true = false) => Bool.noConfusion h) | refine And.intro (fun (h : false = true) => Bool.noConfusion h) (fun (_ : false = false) => ?_)
    cases h1 : (x == -9223372036854775808) with
    | true =>
      refine Or.inr (And.intro h1 ?_)
      repeat first | refine And.intro rfl ?_ | refine And.intro True.intro ?_ | refine Or.inl (And.intro rfl ?_) | refine Or.inr (And.intro rfl ?_) | refine And.intro (fun (_ : true = true) => ?_) (fun (h : true = false) => Bool.noConfusion h) | refine And.intro (fun (h : false = true) => Bool.noConfusion h) (fun (_ : false = false) => ?_)
      rfl
    | false =>
      refine Or.inl (And.intro h1 ?_)
      have mx : Md x := by
        have : x ≠ -9223372036854775808 := by simpa using h1
        omega
      repeat first | refine And.intro rfl ?_ | refine And.intro True.intro ?_ | refine Or.inl (And.intro rfl ?_) | refine Or.inr (And.intro rfl ?_) | refine And.intro (fun (_ : true = true) => ?_) (fun (h : true = false) => Bool.noConfusion h) | refine And.intro (fun (h : false = true) => Bool.noConfusion h) (fun (_ : false = false) => ?_)
      refine And.intro (fun hc => ?_) (fun hc => ?_)
      · repeat first | refine And.intro rfl ?_ | refine And.intro True.intro ?_ | refine Or.inl (And.intro rfl ?_) | refine Or.inr (And.intro rfl ?_) | refine And.intro (fun (_ : true = true) => ?_) (fun (h : true = false) => Bool.noConfusion h) | refine And.intro (fun (h : false = true) => Bool.noConfusion h) (fun (_ : false = false) => ?_)
        rfl
      · have my : Md y := by
          have : y ≠ -9223372036854775808 := by simpa using hc
          omega
        obtain ⟨m1, m2, he⟩ := ap_agrees f q mx my
        obtain ⟨u, hu⟩ : ∃ u, u = (apZ f q (x, y)).1 := ⟨_, rfl⟩
        obtain ⟨v, hv⟩ : ∃ v, v = (apZ f q (x, y)).2 := ⟨_, rfl⟩
        rw [← hu] at m1 he
        rw [← hv] at m2 he
        have iu : InR u := by omega
        have iv : InR v := by omega
        repeat first | refine And.intro rfl ?_ | refine And.intro True.intro ?_ | refine Or.inl (And.intro rfl ?_) | refine Or.inr (And.intro rfl ?_) | refine And.intro (fun (_ : true = true) => ?_) (fun (h : true = false) => Bool.noConfusion h) | refine And.intro (fun (h : false = true) => Bool.noConfusion h) (fun (_ : false = false) => ?_)
        rw [← hu, ← hv]
        repeat first | refine And.intro rfl ?_ | refine And.intro True.intro ?_ | refine Or.inl (And.intro rfl ?_) | refine Or.inr (And.intro rfl ?_) | refine And.intro (fun (_ : true = true) => ?_) (fun (h : true = false) => Bool.noConfusion h) | refine And.intro (fun (h : false = true) => Bool.noConfusion h) (fun (_ : false = false) => ?_)
        refine And.intro (And.intro hx hy) ?_
        repeat first | refine And.intro rfl ?_ | refine And.intro True.intro ?_ | refine Or.inl (And.intro rfl ?_) | refine Or.inr (And.intro rfl ?_) | refine And.intro (fun (_ : true = true) => ?_) (fun (h : true = false) => Bool.noConfusion h) | refine And.intro (fun (h : false = true) => Bool.noConfusion h) (fun (_ : false = false) => ?_)
        refine And.intro (And.intro (whole_pre x hx) (whole_pre y hy)) ?_
        rw [rq_cq, rq_cq, he]
        repeat first | refine And.intro rfl ?_ | refine And.intro True.intro ?_ | refine Or.inl (And.intro rfl ?_) | refine Or.inr (And.intro rfl ?_) | refine And.intro (fun (_ : true = true) => ?_) (fun (h : true = false) => Bool.noConfusion h) | refine And.intro (fun (h : false = true) => Bool.noConfusion h) (fun (_ : false = false) => ?_)
        refine And.intro (And.intro iu iv) ?_
        repeat first | refine And.intro rfl ?_ | refine And.intro True.intro ?_ | refine Or.inl (And.intro rfl ?_) | refine Or.inr (And.intro rfl ?_) | refine And.intro (fun (_ : true = true) => ?_) (fun (h : true = false) => Bool.noConfusion h) | refine And.intro (fun (h : false = true) => Bool.noConfusion h) (fun (_ : false = false) => ?_)
        refine And.intro (And.intro (And.intro (whole_len iu).1 (And.intro (whole_len iu).2 (whole_len iu))) (And.intro (whole_len iv).1 (And.intro (whole_len iv).2 (whole_len iv)))) ?_
        repeat first | refine And.intro rfl ?_ | refine And.intro True.intro ?_ | refine Or.inl (And.intro rfl ?_) | refine Or.inr (And.intro rfl ?_) | refine And.intro (fun (_ : true = true) => ?_) (fun (h : true = false) => Bool.noConfusion h) | refine And.intro (fun (h : false = true) => Bool.noConfusion h) (fun (_ : false = false) => ?_)
        refine Or.inl (And.intro (by exact decide_eq_true ⟨rfl, rfl⟩) ?_)
        repeat first | refine And.intro rfl ?_ | refine And.intro True.intro ?_ | refine Or.inl (And.intro rfl ?_) | refine Or.inr (And.intro rfl ?_) | refine And.intro (fun (_ : true = true) => ?_) (fun (h : true = false) => Bool.noConfusion h) | refine And.intro (fun (h : false = true) => Bool.noConfusion h) (fun (_ : false = false) => ?_)
        refine And.intro (And.intro iu (show InR 0 by decide)) ?_
        repeat first | refine And.intro rfl ?_ | refine And.intro True.intro ?_ | refine Or.inl (And.intro rfl ?_) | refine Or.inr (And.intro rfl ?_) | refine And.intro (fun (_ : true = true) => ?_) (fun (h : true = false) => Bool.noConfusion h) | refine And.intro (fun (h : false = true) => Bool.noConfusion h) (fun (_ : false = false) => ?_)
        refine And.intro (And.intro (whole_len iu).1 (And.intro (whole_len iu).2 (whole_len iu))) ?_
        repeat first | refine And.intro rfl ?_ | refine And.intro True.intro ?_ | refine Or.inl (And.intro rfl ?_) | refine Or.inr (And.intro rfl ?_) | refine And.intro (fun (_ : true = true) => ?_) (fun (h : true = false) => Bool.noConfusion h) | refine And.intro (fun (h : false = true) => Bool.noConfusion h) (fun (_ : false = false) => ?_)
        refine Or.inl (And.intro (by rw [cmpQ_zero]; exact decide_eq_true rfl) ?_)
        repeat first | refine And.intro rfl ?_ | refine And.intro True.intro ?_ | refine Or.inl (And.intro rfl ?_) | refine Or.inr (And.intro rfl ?_) | refine And.intro (fun (_ : true = true) => ?_) (fun (h : true = false) => Bool.noConfusion h) | refine And.intro (fun (h : false = true) => Bool.noConfusion h) (fun (_ : false = false) => ?_)
        rfl
  · cases h

end Go.Gm
