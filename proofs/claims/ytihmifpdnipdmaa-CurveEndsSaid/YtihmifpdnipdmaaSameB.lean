/-
  Whether lists of points are equal field by field, and whether they are short; lists of points made of integers. Plain theorems; no condition.
-/
import Derived.Test.YtihmifpdnipdmaaSame
import Derived.Test.YtihmifpdnipdmaaCurveC
set_option linter.all false
namespace Go.Gm
open Go.Proofs

def TS2 : Table := [(41, sSameRat), (38, sLight3), (59, sPtOf)]
theorem TS2_ok : TabOk TS2 := TabOk.cons ok_SameRat3 (TabOk.cons ok_Light3 (TabOk.cons ok_ptOf TabOk.nil))

def sSame9 : List RV → Option (Prop × Res)
  | [.one (.sl 6 c), .one (.sl 6 d)] => some (ShP 1000000 c ∧ IsP d ∧ c.length ≤ 1000, .r (.val (.bool (sameL (ptsOf c) (ptsOf d)))))
  | _ => none

set_option maxHeartbeats 1000000 in
theorem ok_Same9 : Ok1 56 sSame9 := by
  refine ok_of TS2_ok Try.func56 rfl (by kernel_rfl) ?_
  intro xs pre res h hp hlim
  unfold sSame9 at h
  split at h
  · rename_i c d
    cases h
    obtain ⟨hsh, hd, hlen⟩ := hp
    obtain ⟨ps, rfl, hps, hpl⟩ := sh_le hsh
    obtain ⟨qs, hqs⟩ : ∃ qs, qs = ptsOf d := ⟨_, rfl⟩
    unfold IsP at hd
    rw [← hqs] at hd
    subst hd
    rw [ptsOf_B, ptsOf_B]
    rw [← hpl] at hlen
    clear hqs
    refine And.intro (Nat.le_of_ble_eq_true rfl) ?_
    repeat first | refine And.intro rfl ?_ | refine Or.inl (And.intro rfl ?_) | refine Or.inr (And.intro rfl ?_) | refine And.intro (fun (_ : true = true) => ?_) (fun (h : true = false) => Bool.noConfusion h) | refine And.intro (fun (h : false = true) => Bool.noConfusion h) (fun (_ : false = false) => ?_)
    refine And.intro (fun hc => ?_) (fun hc => ?_)
    · have hne : ps.length ≠ qs.length := by
        intro h
        have hc : (((ps.map ptB).length : Int) != ((qs.map ptB).length : Int)) = true := hc
        rw [List.length_map, List.length_map, h] at hc
        simp at hc
      repeat first | refine And.intro rfl ?_ | refine Or.inl (And.intro rfl ?_) | refine Or.inr (And.intro rfl ?_) | refine And.intro (fun (_ : true = true) => ?_) (fun (h : true = false) => Bool.noConfusion h) | refine And.intro (fun (h : false = true) => Bool.noConfusion h) (fun (_ : false = false) => ?_)
      exact resB (sameL_ne (fun h => hne (by rw [h]))).symm
    · have hle : ps.length = qs.length := by
        have hc : (((ps.map ptB).length : Int) != ((qs.map ptB).length : Int)) = false := hc
        rw [List.length_map, List.length_map] at hc
        simp at hc
        omega
      repeat first | refine And.intro rfl ?_ | refine Or.inl (And.intro rfl ?_) | refine Or.inr (And.intro rfl ?_) | refine And.intro (fun (_ : true = true) => ?_) (fun (h : true = false) => Bool.noConfusion h) | refine And.intro (fun (h : false = true) => Bool.noConfusion h) (fun (_ : false = false) => ?_)
      refine Exists.intro {i : Nat // i ≤ ps.length ∧ ps.take i = qs.take i} (Exists.intro (fun i => ⟨[(0, .one (.sl 6 (ps.map ptB))), (1, .one (.sl 6 (qs.map ptB))), (5, .val (.int .i64 (i.1 : Nat)))], ⟨[], []⟩⟩) (Exists.intro (fun i => ps.length - i.1) (Exists.intro ⟨0, Nat.zero_le _, by simp⟩ (And.intro ?_ ?_))))
      · repeat first | exact trivial | refine And.intro rfl ?_ | refine And.intro trivial ?_ | refine And.intro (And.intro rfl trivial) ?_ | refine And.intro (And.intro rfl (And.intro rfl trivial)) ?_
      · rintro ⟨i, hi, ht⟩
        repeat first | refine And.intro rfl ?_ | refine Or.inl (And.intro rfl ?_) | refine Or.inr (And.intro rfl ?_) | refine And.intro (fun (_ : true = true) => ?_) (fun (h : true = false) => Bool.noConfusion h) | refine And.intro (fun (h : false = true) => Bool.noConfusion h) (fun (_ : false = false) => ?_)
        refine And.intro (fun hc => ?_) (fun hc => ?_)
        · have hi' : (i : Int) < (((ps.map ptB).length : Nat) : Int) := of_decide_eq_true hc
          rw [List.length_map] at hi'
          have g1 : (ps.map ptB).getD (i : Int).toNat [] = ptB (ps.getD i PR.zero) := getD_ptB ps i (by omega)
          have g2 : (qs.map ptB).getD (i : Int).toNat [] = ptB (qs.getD i PR.zero) := getD_ptB qs i (by omega)
          have kp := hps _ (getD_mem' ps i PR.zero (by omega))
          have hne : ∀ {x y : PR}, ps.getD i PR.zero = x → qs.getD i PR.zero = y → x ≠ y → sameL ps qs = false := by
            intro x y hx hy hxy
            exact sameL_ne (fun h => hxy (by rw [← hx, ← hy, h]))
          obtain ⟨p, hpp⟩ : ∃ p, p = ps.getD i PR.zero := ⟨_, rfl⟩
          obtain ⟨q, hqq⟩ : ∃ q, q = qs.getD i PR.zero := ⟨_, rfl⟩
          rw [← hpp] at g1 kp
          rw [← hqq] at g2
          have r1 : 0 ≤ (i : Int) ∧ (i : Int) < (((ps.map ptB).length : Nat) : Int) := by rw [List.length_map]; omega
          have r2 : 0 ≤ (i : Int) ∧ (i : Int) < (((qs.map ptB).length : Nat) : Int) := by rw [List.length_map]; omega
          repeat first | refine And.intro rfl ?_ | refine Or.inl (And.intro rfl ?_) | refine Or.inr (And.intro rfl ?_) | refine And.intro (fun (_ : true = true) => ?_) (fun (h : true = false) => Bool.noConfusion h) | refine And.intro (fun (h : false = true) => Bool.noConfusion h) (fun (_ : false = false) => ?_)
          refine And.intro r1 ?_
          rw [g1]
          repeat first | refine And.intro rfl ?_ | refine Or.inl (And.intro rfl ?_) | refine Or.inr (And.intro rfl ?_) | refine And.intro (fun (_ : true = true) => ?_) (fun (h : true = false) => Bool.noConfusion h) | refine And.intro (fun (h : false = true) => Bool.noConfusion h) (fun (_ : false = false) => ?_)
          refine And.intro r2 ?_
          rw [g2]
          repeat first | refine And.intro rfl ?_ | refine Or.inl (And.intro rfl ?_) | refine Or.inr (And.intro rfl ?_) | refine And.intro (fun (_ : true = true) => ?_) (fun (h : true = false) => Bool.noConfusion h) | refine And.intro (fun (h : false = true) => Bool.noConfusion h) (fun (_ : false = false) => ?_)
          refine And.intro (And.intro kp.1 kp.2.1) ?_
          repeat first | refine And.intro rfl ?_ | refine Or.inl (And.intro rfl ?_) | refine Or.inr (And.intro rfl ?_) | refine And.intro (fun (_ : true = true) => ?_) (fun (h : true = false) => Bool.noConfusion h) | refine And.intro (fun (h : false = true) => Bool.noConfusion h) (fun (_ : false = false) => ?_)
          by_cases hx : p.s = q.s ∧ p.l = q.l ∧ p.t = q.t
          · refine Or.inl (And.intro (show (!decide (p.s = q.s ∧ p.l = q.l ∧ p.t = q.t)) = false by simp [hx]) ?_)
            repeat first | refine And.intro rfl ?_ | refine Or.inl (And.intro rfl ?_) | refine Or.inr (And.intro rfl ?_) | refine And.intro (fun (_ : true = true) => ?_) (fun (h : true = false) => Bool.noConfusion h) | refine And.intro (fun (h : false = true) => Bool.noConfusion h) (fun (_ : false = false) => ?_)
            refine And.intro r1 ?_
            rw [g1]
            repeat first | refine And.intro rfl ?_ | refine Or.inl (And.intro rfl ?_) | refine Or.inr (And.intro rfl ?_) | refine And.intro (fun (_ : true = true) => ?_) (fun (h : true = false) => Bool.noConfusion h) | refine And.intro (fun (h : false = true) => Bool.noConfusion h) (fun (_ : false = false) => ?_)
            refine And.intro r2 ?_
            rw [g2]
            repeat first | refine And.intro rfl ?_ | refine Or.inl (And.intro rfl ?_) | refine Or.inr (And.intro rfl ?_) | refine And.intro (fun (_ : true = true) => ?_) (fun (h : true = false) => Bool.noConfusion h) | refine And.intro (fun (h : false = true) => Bool.noConfusion h) (fun (_ : false = false) => ?_)
            refine And.intro (And.intro kp.2.2.1 kp.2.2.2) ?_
            repeat first | refine And.intro rfl ?_ | refine Or.inl (And.intro rfl ?_) | refine Or.inr (And.intro rfl ?_) | refine And.intro (fun (_ : true = true) => ?_) (fun (h : true = false) => Bool.noConfusion h) | refine And.intro (fun (h : false = true) => Bool.noConfusion h) (fun (_ : false = false) => ?_)
            refine And.intro (fun hy => ?_) (fun hy => ?_)
            · have hy : (!decide (p.z = q.z ∧ p.k = q.k ∧ p.u = q.u)) = true := hy
              repeat first | refine And.intro rfl ?_ | refine Or.inl (And.intro rfl ?_) | refine Or.inr (And.intro rfl ?_) | refine And.intro (fun (_ : true = true) => ?_) (fun (h : true = false) => Bool.noConfusion h) | refine And.intro (fun (h : false = true) => Bool.noConfusion h) (fun (_ : false = false) => ?_)
              refine resB (hne hpp.symm hqq.symm (fun h => ?_)).symm
              rw [h] at hy
              simp at hy
            · have hy : (!decide (p.z = q.z ∧ p.k = q.k ∧ p.u = q.u)) = false := hy
              have hpq : p = q := samePR_iff.1 (by simp only [samePR, Bool.and_eq_true]; exact ⟨decide_eq_true hx, by simpa using hy⟩)
              repeat first | refine And.intro rfl ?_ | refine Or.inl (And.intro rfl ?_) | refine Or.inr (And.intro rfl ?_) | refine And.intro (fun (_ : true = true) => ?_) (fun (h : true = false) => Bool.noConfusion h) | refine And.intro (fun (h : false = true) => Bool.noConfusion h) (fun (_ : false = false) => ?_)
              refine Exists.intro ⟨i + 1, by omega, by rw [take_snoc ps PR.zero i (by omega), take_snoc qs PR.zero i (by omega), ht, ← hpp, ← hqq, hpq]⟩ (And.intro (show ps.length - (i + 1) < ps.length - i by omega) ?_)
              repeat first | exact trivial | refine And.intro rfl ?_ | refine And.intro trivial ?_ | refine And.intro (And.intro rfl trivial) ?_ | refine And.intro (And.intro rfl (And.intro rfl trivial)) ?_
              exact And.intro (avI (show IntKind.i64.wrap ((i : Int) + 1) = ((i + 1 : Nat) : Int) by rw [wI (by omega) (by omega)]; omega)) trivial
          · refine Or.inr (And.intro (show (!decide (p.s = q.s ∧ p.l = q.l ∧ p.t = q.t)) = true by simp [hx]) ?_)
            repeat first | refine And.intro rfl ?_ | refine Or.inl (And.intro rfl ?_) | refine Or.inr (And.intro rfl ?_) | refine And.intro (fun (_ : true = true) => ?_) (fun (h : true = false) => Bool.noConfusion h) | refine And.intro (fun (h : false = true) => Bool.noConfusion h) (fun (_ : false = false) => ?_)
            refine resB (hne hpp.symm hqq.symm (fun h => hx ?_)).symm
            rw [h]
            exact ⟨rfl, rfl, rfl⟩
        · have hi' : ¬ (i : Int) < (((ps.map ptB).length : Nat) : Int) := of_decide_eq_false hc
          rw [List.length_map] at hi'
          have hil : i = ps.length := by omega
          rw [hil, List.take_length, hle, List.take_length] at ht
          repeat first | refine And.intro rfl ?_ | refine Or.inl (And.intro rfl ?_) | refine Or.inr (And.intro rfl ?_) | refine And.intro (fun (_ : true = true) => ?_) (fun (h : true = false) => Bool.noConfusion h) | refine And.intro (fun (h : false = true) => Bool.noConfusion h) (fun (_ : false = false) => ?_)
          exact resB (sameL_iff.2 ht).symm
  · cases h

def sLight9 : List RV → Option (Prop × Res)
  | [.one (.sl 6 c), .one (.b (.val (.int .i64 m))), .one (.b (.val (.int .i64 n)))] => some (IsP c ∧ m ≤ 1000, .r (.val (.bool (decide ((c.length : Int) ≤ m) && (ptsOf c).all (lightPR n)))))
  | _ => none

set_option maxHeartbeats 1000000 in
theorem ok_Light9 : Ok1 49 sLight9 := by
  refine ok_of TS2_ok Try.func49 rfl (by kernel_rfl) ?_
  intro xs pre res h hp hlim
  unfold sLight9 at h
  split at h
  · rename_i c m n
    cases h
    obtain ⟨hc1, hm⟩ := hp
    obtain ⟨ps, hps⟩ : ∃ ps, ps = ptsOf c := ⟨_, rfl⟩
    unfold IsP at hc1
    rw [← hps] at hc1
    subst hc1
    rw [ptsOf_B]
    clear hps
    refine And.intro (Nat.le_of_ble_eq_true rfl) ?_
    repeat first | refine And.intro rfl ?_ | refine Or.inl (And.intro rfl ?_) | refine Or.inr (And.intro rfl ?_) | refine And.intro (fun (_ : true = true) => ?_) (fun (h : true = false) => Bool.noConfusion h) | refine And.intro (fun (h : false = true) => Bool.noConfusion h) (fun (_ : false = false) => ?_)
    refine And.intro (fun hc => ?_) (fun hc => ?_)
    · have hc : ((ps.map ptB).length : Int) > m := of_decide_eq_true hc
      repeat first | refine And.intro rfl ?_ | refine Or.inl (And.intro rfl ?_) | refine Or.inr (And.intro rfl ?_) | refine And.intro (fun (_ : true = true) => ?_) (fun (h : true = false) => Bool.noConfusion h) | refine And.intro (fun (h : false = true) => Bool.noConfusion h) (fun (_ : false = false) => ?_)
      exact resB (by rw [decide_eq_false (show ¬ (((ps.map ptB).length : Nat) : Int) ≤ m by omega)]; rfl)
    · have hc : ¬ ((ps.map ptB).length : Int) > m := of_decide_eq_false hc
      rw [decide_eq_true (show (((ps.map ptB).length : Nat) : Int) ≤ m by omega)]
      rw [List.length_map] at hc
      repeat first | refine And.intro rfl ?_ | refine Or.inl (And.intro rfl ?_) | refine Or.inr (And.intro rfl ?_) | refine And.intro (fun (_ : true = true) => ?_) (fun (h : true = false) => Bool.noConfusion h) | refine And.intro (fun (h : false = true) => Bool.noConfusion h) (fun (_ : false = false) => ?_)
      refine Exists.intro {i : Nat // i ≤ ps.length ∧ (ps.take i).all (lightPR n) = true} (Exists.intro (fun i => ⟨[(0, .one (.sl 6 (ps.map ptB))), (2, .val (.int .i64 n)), (7, .val (.int .i64 (i.1 : Nat)))], ⟨[], []⟩⟩) (Exists.intro (fun i => ps.length - i.1) (Exists.intro ⟨0, Nat.zero_le _, by simp⟩ (And.intro ?_ ?_))))
      · repeat first | exact trivial | refine And.intro rfl ?_ | refine And.intro trivial ?_ | refine And.intro (And.intro rfl trivial) ?_ | refine And.intro (And.intro rfl (And.intro rfl trivial)) ?_
      · rintro ⟨i, hi, ht⟩
        repeat first | refine And.intro rfl ?_ | refine Or.inl (And.intro rfl ?_) | refine Or.inr (And.intro rfl ?_) | refine And.intro (fun (_ : true = true) => ?_) (fun (h : true = false) => Bool.noConfusion h) | refine And.intro (fun (h : false = true) => Bool.noConfusion h) (fun (_ : false = false) => ?_)
        refine And.intro (fun hc => ?_) (fun hc => ?_)
        · have hi' : (i : Int) < (((ps.map ptB).length : Nat) : Int) := of_decide_eq_true hc
          rw [List.length_map] at hi'
          have g1 : (ps.map ptB).getD (i : Int).toNat [] = ptB (ps.getD i PR.zero) := getD_ptB ps i (by omega)
          have r1 : 0 ≤ (i : Int) ∧ (i : Int) < (((ps.map ptB).length : Nat) : Int) := by rw [List.length_map]; omega
          have hno : lightPR n (ps.getD i PR.zero) = false → ps.all (lightPR n) = false := by
            intro h
            cases ha : ps.all (lightPR n) with
            | false => rfl
            | true =>
              have := (List.all_eq_true.1 ha) _ (getD_mem' ps i PR.zero (by omega))
              rw [h] at this
              cases this
          obtain ⟨p, hpp⟩ : ∃ p, p = ps.getD i PR.zero := ⟨_, rfl⟩
          rw [← hpp] at g1 hno
          repeat first | refine And.intro rfl ?_ | refine Or.inl (And.intro rfl ?_) | refine Or.inr (And.intro rfl ?_) | refine And.intro (fun (_ : true = true) => ?_) (fun (h : true = false) => Bool.noConfusion h) | refine And.intro (fun (h : false = true) => Bool.noConfusion h) (fun (_ : false = false) => ?_)
          refine And.intro r1 ?_
          rw [g1]
          repeat first | refine And.intro rfl ?_ | refine And.intro True.intro ?_ | refine Or.inl (And.intro rfl ?_) | refine Or.inr (And.intro rfl ?_) | refine And.intro (fun (_ : true = true) => ?_) (fun (h : true = false) => Bool.noConfusion h) | refine And.intro (fun (h : false = true) => Bool.noConfusion h) (fun (_ : false = false) => ?_)
          by_cases hx : (p.l.length : Int) ≤ n ∧ (p.t.length : Int) ≤ n
          · refine Or.inl (And.intro (show (!decide ((p.l.length : Int) ≤ n ∧ (p.t.length : Int) ≤ n)) = false by simp [hx]) ?_)
            repeat first | refine And.intro rfl ?_ | refine Or.inl (And.intro rfl ?_) | refine Or.inr (And.intro rfl ?_) | refine And.intro (fun (_ : true = true) => ?_) (fun (h : true = false) => Bool.noConfusion h) | refine And.intro (fun (h : false = true) => Bool.noConfusion h) (fun (_ : false = false) => ?_)
            refine And.intro r1 ?_
            rw [g1]
            repeat first | refine And.intro rfl ?_ | refine And.intro True.intro ?_ | refine Or.inl (And.intro rfl ?_) | refine Or.inr (And.intro rfl ?_) | refine And.intro (fun (_ : true = true) => ?_) (fun (h : true = false) => Bool.noConfusion h) | refine And.intro (fun (h : false = true) => Bool.noConfusion h) (fun (_ : false = false) => ?_)
            refine And.intro (fun hy => ?_) (fun hy => ?_)
            · have hy : (!decide ((p.k.length : Int) ≤ n ∧ (p.u.length : Int) ≤ n)) = true := hy
              repeat first | refine And.intro rfl ?_ | refine Or.inl (And.intro rfl ?_) | refine Or.inr (And.intro rfl ?_) | refine And.intro (fun (_ : true = true) => ?_) (fun (h : true = false) => Bool.noConfusion h) | refine And.intro (fun (h : false = true) => Bool.noConfusion h) (fun (_ : false = false) => ?_)
              refine resB (hno ?_).symm
              unfold lightPR
              rw [show decide ((p.k.length : Int) ≤ n ∧ (p.u.length : Int) ≤ n) = false from (Bool.not_eq_eq_eq_not.1 hy), Bool.and_false]
            · have hy : (!decide ((p.k.length : Int) ≤ n ∧ (p.u.length : Int) ≤ n)) = false := hy
              have hpl : lightPR n p = true := by
                unfold lightPR
                rw [decide_eq_true hx, show decide ((p.k.length : Int) ≤ n ∧ (p.u.length : Int) ≤ n) = true by simpa using hy]
                rfl
              repeat first | refine And.intro rfl ?_ | refine Or.inl (And.intro rfl ?_) | refine Or.inr (And.intro rfl ?_) | refine And.intro (fun (_ : true = true) => ?_) (fun (h : true = false) => Bool.noConfusion h) | refine And.intro (fun (h : false = true) => Bool.noConfusion h) (fun (_ : false = false) => ?_)
              refine Exists.intro ⟨i + 1, by omega, by rw [take_snoc ps PR.zero i (by omega), List.all_append, ht, ← hpp]; simp [hpl]⟩ (And.intro (show ps.length - (i + 1) < ps.length - i by omega) ?_)
              repeat first | exact trivial | refine And.intro rfl ?_ | refine And.intro trivial ?_ | refine And.intro (And.intro rfl trivial) ?_ | refine And.intro (And.intro rfl (And.intro rfl trivial)) ?_
              exact And.intro (avI (show IntKind.i64.wrap ((i : Int) + 1) = ((i + 1 : Nat) : Int) by rw [wI (by omega) (by omega)]; omega)) trivial
          · refine Or.inr (And.intro (show (!decide ((p.l.length : Int) ≤ n ∧ (p.t.length : Int) ≤ n)) = true by simp [hx]) ?_)
            repeat first | refine And.intro rfl ?_ | refine Or.inl (And.intro rfl ?_) | refine Or.inr (And.intro rfl ?_) | refine And.intro (fun (_ : true = true) => ?_) (fun (h : true = false) => Bool.noConfusion h) | refine And.intro (fun (h : false = true) => Bool.noConfusion h) (fun (_ : false = false) => ?_)
            refine resB (hno ?_).symm
            unfold lightPR
            rw [decide_eq_false hx, Bool.false_and]
        · have hi' : ¬ (i : Int) < (((ps.map ptB).length : Nat) : Int) := of_decide_eq_false hc
          rw [List.length_map] at hi'
          rw [List.take_of_length_le (by omega)] at ht
          repeat first | refine And.intro rfl ?_ | refine Or.inl (And.intro rfl ?_) | refine Or.inr (And.intro rfl ?_) | refine And.intro (fun (_ : true = true) => ?_) (fun (h : true = false) => Bool.noConfusion h) | refine And.intro (fun (h : false = true) => Bool.noConfusion h) (fun (_ : false = false) => ?_)
          exact resB (by rw [ht]; rfl)
  · cases h

def sOne : List RV → Option (Prop × Res)
  | [.agg [.b (.val (.bool s)), .b (.nat l), .b (.nat t), .b (.val (.bool z)), .b (.nat k), .b (.nat u)]] => some (True, .r (.one (.sl 6 [[.val (.bool s), .nat l, .nat t, .val (.bool z), .nat k, .nat u]])))
  | _ => none
theorem ok_one : Ok1 57 sOne := by
  refine ok_of TS2_ok Try.func57 rfl (by kernel_rfl) ?_
  intro xs pre res h hp hlim
  unfold sOne at h
  split at h
  · cases h
    refine And.intro (Nat.le_of_ble_eq_true rfl) ?_
    repeat first | refine And.intro rfl ?_ | refine Or.inl (And.intro rfl ?_) | refine Or.inr (And.intro rfl ?_) | refine And.intro (fun (_ : true = true) => ?_) (fun (h : true = false) => Bool.noConfusion h) | refine And.intro (fun (h : false = true) => Bool.noConfusion h) (fun (_ : false = false) => ?_)
    repeat first | refine And.intro rfl ?_ | refine And.intro True.intro ?_ | refine Or.inl (And.intro rfl ?_) | refine Or.inr (And.intro rfl ?_) | refine And.intro (fun (_ : true = true) => ?_) (fun (h : true = false) => Bool.noConfusion h) | refine And.intro (fun (h : false = true) => Bool.noConfusion h) (fun (_ : false = false) => ?_)
    rfl
  · cases h

def inB (n : Int) : List BV := [.val (.int .i64 n)]
def inOf : List BV → Int
  | [.val (.int .i64 n)] => n
  | _ => 0
def pairs : List Int → List (Rat × Rat)
  | a :: b :: l => ((a : Rat), (b : Rat)) :: pairs l
  | _ => []
theorem pairs_at : ∀ (l : List Int) (k : Nat), 2 * k + 1 < l.length → k < (pairs l).length ∧ (pairs l).getD k (0, 0) = (((l.getD (2 * k) 0 : Int) : Rat), ((l.getD (2 * k + 1) 0 : Int) : Rat))
  | [], _, h => by simp at h
  | [_], _, h => by simp at h
  | a :: b :: l, 0, _ => ⟨by simp [pairs], rfl⟩
  | a :: b :: l, k + 1, h => by
    obtain ⟨h1, h2⟩ := pairs_at l k (by simp at h; omega)
    exact ⟨by simp [pairs]; omega, h2⟩
theorem pairs_len : ∀ (l : List Int), 2 * (pairs l).length ≤ l.length ∧ l.length ≤ 2 * (pairs l).length + 1
  | [] => by simp [pairs]
  | [_] => by simp [pairs]
  | a :: b :: l => by have := pairs_len l; simp [pairs]; omega

def sPts : List RV → Option (Prop × Res)
  | [.one (.sl 1 c)] => some (c = (c.map inOf).map inB ∧ c.length ≤ 1000 ∧ ∀ n, n ∈ c.map inOf → InR n, .r (.one (.sl 6 (nB (pairs (c.map inOf))))))
  | _ => none

set_option maxHeartbeats 1000000 in
theorem ok_pts : Ok1 107 sPts := by
  refine ok_of TS2_ok Try.func107 rfl (by kernel_rfl) ?_
  intro xs pre res h hp hlim
  unfold sPts at h
  split at h
  · rename_i c
    cases h
    obtain ⟨hc1, hc2, hc3⟩ := hp
    obtain ⟨l, hl⟩ : ∃ l, l = c.map inOf := ⟨_, rfl⟩
    rw [← hl] at hc1 hc3 ⊢
    clear hl
    subst hc1
    rw [List.length_map] at hc2
    have hpl := pairs_len l
    have hget : ∀ i, i < l.length → (l.map inB).getD i [] = inB (l.getD i 0) := fun i hi => by simp [List.getD_eq_getElem?_getD, hi]
    refine And.intro (Nat.le_of_ble_eq_true rfl) ?_
    repeat first | refine And.intro rfl ?_ | refine Or.inl (And.intro rfl ?_) | refine Or.inr (And.intro rfl ?_) | refine And.intro (fun (_ : true = true) => ?_) (fun (h : true = false) => Bool.noConfusion h) | refine And.intro (fun (h : false = true) => Bool.noConfusion h) (fun (_ : false = false) => ?_)
    refine Exists.intro {k : Nat // k ≤ (pairs l).length} (Exists.intro (fun k => ⟨[(0, .one (.sl 1 (l.map inB))), (3, .own 0), (4, .val (.int .i64 ((2 * k.1 : Nat) : Int)))], ⟨[], [.s 38 6 (nB ((pairs l).take k.1))]⟩⟩) (Exists.intro (fun k => (pairs l).length - k.1) (Exists.intro ⟨0, Nat.zero_le _⟩ (And.intro ?_ ?_))))
    · repeat first | exact trivial | refine And.intro rfl ?_ | refine And.intro trivial ?_ | refine And.intro (And.intro rfl trivial) ?_ | refine And.intro (And.intro rfl (And.intro rfl trivial)) ?_
    · rintro ⟨k, hk⟩
      have hw : IntKind.i64.wrap (((2 * k : Nat) : Int) + 1) = ((2 * k + 1 : Nat) : Int) := by rw [wI (by omega) (by omega)]; omega
      repeat first | refine And.intro rfl ?_ | refine Or.inl (And.intro rfl ?_) | refine Or.inr (And.intro rfl ?_) | refine And.intro (fun (_ : true = true) => ?_) (fun (h : true = false) => Bool.noConfusion h) | refine And.intro (fun (h : false = true) => Bool.noConfusion h) (fun (_ : false = false) => ?_)
      refine And.intro (fun hc => ?_) (fun hc => ?_)
      · have hc : IntKind.i64.wrap (((2 * k : Nat) : Int) + 1) < (((l.map inB).length : Nat) : Int) := of_decide_eq_true hc
        rw [hw, List.length_map] at hc
        obtain ⟨a1, a2⟩ := pairs_at l k (by omega)
        have g1 : (l.map inB).getD ((2 * k : Nat) : Int).toNat [] = inB (l.getD (2 * k) 0) := by rw [Int.toNat_natCast]; exact hget _ (by omega)
        have g2 : (l.map inB).getD (IntKind.i64.wrap (((2 * k : Nat) : Int) + 1)).toNat [] = inB (l.getD (2 * k + 1) 0) := by rw [hw, Int.toNat_natCast]; exact hget _ (by omega)
        repeat first | refine And.intro rfl ?_ | refine Or.inl (And.intro rfl ?_) | refine Or.inr (And.intro rfl ?_) | refine And.intro (fun (_ : true = true) => ?_) (fun (h : true = false) => Bool.noConfusion h) | refine And.intro (fun (h : false = true) => Bool.noConfusion h) (fun (_ : false = false) => ?_)
        refine And.intro (show 0 ≤ ((2 * k : Nat) : Int) ∧ ((2 * k : Nat) : Int) < (((l.map inB).length : Nat) : Int) by rw [List.length_map]; omega) ?_
        rw [g1]
        repeat first | refine And.intro rfl ?_ | refine Or.inl (And.intro rfl ?_) | refine Or.inr (And.intro rfl ?_) | refine And.intro (fun (_ : true = true) => ?_) (fun (h : true = false) => Bool.noConfusion h) | refine And.intro (fun (h : false = true) => Bool.noConfusion h) (fun (_ : false = false) => ?_)
        refine And.intro (show 0 ≤ IntKind.i64.wrap (((2 * k : Nat) : Int) + 1) ∧ IntKind.i64.wrap (((2 * k : Nat) : Int) + 1) < (((l.map inB).length : Nat) : Int) by rw [hw, List.length_map]; omega) ?_
        rw [g2]
        repeat first | refine And.intro rfl ?_ | refine Or.inl (And.intro rfl ?_) | refine Or.inr (And.intro rfl ?_) | refine And.intro (fun (_ : true = true) => ?_) (fun (h : true = false) => Bool.noConfusion h) | refine And.intro (fun (h : false = true) => Bool.noConfusion h) (fun (_ : false = false) => ?_)
        refine And.intro (And.intro (hc3 _ (getD_mem' l _ 0 (by omega))) (hc3 _ (getD_mem' l _ 0 (by omega)))) ?_
        repeat first | refine And.intro rfl ?_ | refine And.intro True.intro ?_ | refine Or.inl (And.intro rfl ?_) | refine Or.inr (And.intro rfl ?_) | refine And.intro (fun (_ : true = true) => ?_) (fun (h : true = false) => Bool.noConfusion h) | refine And.intro (fun (h : false = true) => Bool.noConfusion h) (fun (_ : false = false) => ?_)
        refine And.intro (show (nB ((pairs l).take k)).length + 1 ≤ 1000000 by rw [nB_len, List.length_take]; omega) ?_
        repeat first | refine And.intro rfl ?_ | refine Or.inl (And.intro rfl ?_) | refine Or.inr (And.intro rfl ?_) | refine And.intro (fun (_ : true = true) => ?_) (fun (h : true = false) => Bool.noConfusion h) | refine And.intro (fun (h : false = true) => Bool.noConfusion h) (fun (_ : false = false) => ?_)
        refine Exists.intro ⟨k + 1, by omega⟩ (And.intro (show (pairs l).length - (k + 1) < (pairs l).length - k by omega) ?_)
        repeat first | exact trivial | refine And.intro rfl ?_ | refine And.intro trivial ?_ | refine And.intro (And.intro rfl trivial) ?_ | refine And.intro (And.intro rfl (And.intro rfl trivial)) ?_
        refine And.intro (And.intro (rwSl ?_) trivial) ?_
        · show nB ((pairs l).take k) ++ [ptB (prQ (((l.getD (2 * k) 0 : Int) : Rat), ((l.getD (2 * k + 1) 0 : Int) : Rat)))] = nB ((pairs l).take (k + 1))
          rw [nB_snoc _ _ a1, a2]
        · repeat first | exact trivial | refine And.intro rfl ?_ | refine And.intro trivial ?_ | refine And.intro (And.intro rfl trivial) ?_ | refine And.intro (And.intro rfl (And.intro rfl trivial)) ?_
          exact And.intro (avI (show IntKind.i64.wrap (((2 * k : Nat) : Int) + 2) = ((2 * (k + 1) : Nat) : Int) by rw [wI (by omega) (by omega)]; omega)) trivial
      · have hc : ¬ IntKind.i64.wrap (((2 * k : Nat) : Int) + 1) < (((l.map inB).length : Nat) : Int) := of_decide_eq_false hc
        rw [hw, List.length_map] at hc
        repeat first | refine And.intro rfl ?_ | refine Or.inl (And.intro rfl ?_) | refine Or.inr (And.intro rfl ?_) | refine And.intro (fun (_ : true = true) => ?_) (fun (h : true = false) => Bool.noConfusion h) | refine And.intro (fun (h : false = true) => Bool.noConfusion h) (fun (_ : false = false) => ?_)
        refine resSl ?_
        show nB ((pairs l).take k) = nB (pairs l)
        rw [List.take_of_length_le (by omega)]
  · cases h

end Go.Gm
