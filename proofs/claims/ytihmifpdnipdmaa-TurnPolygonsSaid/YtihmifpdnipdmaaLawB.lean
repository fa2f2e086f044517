/-
  The statements about turns, part B. Plain theorems; no condition.
-/
import Derived.Test.YtihmifpdnipdmaaLawA
set_option linter.all false
namespace Go.Gm
open Go.Proofs

theorem isSp_of {l : List (List BV)} (h : ∀ b, b ∈ l → ∃ x y, (-9223372036854775808 ≤ x ∧ x < 9223372036854775808) ∧ (-9223372036854775808 ≤ y ∧ y < 9223372036854775808) ∧ b = [BV.val (.int .i64 x), BV.val (.int .i64 y)]) : IsSp l := by
  unfold IsSp spots
  rw [List.map_map]
  conv => lhs; rw [← List.map_id l]
  apply List.map_congr_left
  intro b hb
  obtain ⟨x, y, _, _, rfl⟩ := h b hb
  rfl

/-! Eight turns. -/

def sTurnEight : List RV → Option (Prop × Res)
  | [.agg [.b (.val (.bool f)), .b (.val (.int .i64 q))], .agg [.b (.val (.bool f')), .b (.val (.int .i64 q'))]] => some (InR q ∧ InR q', .r (.val (.bool true)))
  | _ => none

theorem eight (f : Bool) (q : Int) (f' : Bool) (q' : Int) : ((f == f' && q % 4 == q' % 4) == ((apZ f q (1, 2)).1 == (apZ f' q' (1, 2)).1 && (apZ f q (1, 2)).2 == (apZ f' q' (1, 2)).2)) = true := by
  rcases four q with h | h | h | h <;> rcases four q' with k | k | k | k <;> cases f <;> cases f' <;> (unfold apZ; rw [h, k]; rfl)

theorem tq_four (f : Bool) (q : Int) : tq (tq q f q) (!(f == f)) (tq q f q) = 0 := by
  cases f <;> simp [tq] <;> omega
theorem tq_two (q : Int) : tq q true q = 0 := by simp [tq]; omega

attribute [local irreducible] apZ tq tinv alw

set_option maxHeartbeats 2000000 in
theorem ok_TurnEight : Ok1 8 sTurnEight := by
  refine ok_of TL0_ok Try.func8 rfl (by kernel_rfl) ?_
  intro xs pre res h hp hlim
  unfold sTurnEight at h
  split at h
  · rename_i f q f' q'
    cases h
    have hq : 0 ≤ q % 4 ∧ q % 4 < 4 := by omega
    have hq2 : q % 4 % 4 = q % 4 := by omega
    refine And.intro (Nat.le_of_ble_eq_true rfl) ?_
    repeat first | refine And.intro rfl ?_ | refine And.intro True.intro ?_ | refine Or.inl (And.intro rfl ?_) | refine Or.inr (And.intro rfl ?_) | refine And.intro (fun (_ : true = true) => ?_) (fun (h : true = false) => Bool.noConfusion h) | refine And.intro (fun (h : false = true) => Bool.noConfusion h) (fun (_ : false = false) => ?_)
    refine And.intro (fun hc => ?_) (fun hc => ?_)
    · exfalso
      rw [eight f q f' q'] at hc
      cases hc
    · repeat first | refine And.intro rfl ?_ | refine And.intro True.intro ?_ | refine Or.inl (And.intro rfl ?_) | refine Or.inr (And.intro rfl ?_) | refine And.intro (fun (_ : true = true) => ?_) (fun (h : true = false) => Bool.noConfusion h) | refine And.intro (fun (h : false = true) => Bool.noConfusion h) (fun (_ : false = false) => ?_)
      refine Or.inl (And.intro (by exact decide_eq_false (by omega)) ?_)
      repeat first | refine And.intro rfl ?_ | refine And.intro True.intro ?_ | refine Or.inl (And.intro rfl ?_) | refine Or.inr (And.intro rfl ?_) | refine And.intro (fun (_ : true = true) => ?_) (fun (h : true = false) => Bool.noConfusion h) | refine And.intro (fun (h : false = true) => Bool.noConfusion h) (fun (_ : false = false) => ?_)
      refine Or.inl (And.intro (by exact decide_eq_false (by omega)) ?_)
      repeat first | refine And.intro rfl ?_ | refine And.intro True.intro ?_ | refine Or.inl (And.intro rfl ?_) | refine Or.inr (And.intro rfl ?_) | refine And.intro (fun (_ : true = true) => ?_) (fun (h : true = false) => Bool.noConfusion h) | refine And.intro (fun (h : false = true) => Bool.noConfusion h) (fun (_ : false = false) => ?_)
      refine Or.inl (And.intro (by simp) ?_)
      repeat first | refine And.intro rfl ?_ | refine And.intro True.intro ?_ | refine Or.inl (And.intro rfl ?_) | refine Or.inr (And.intro rfl ?_) | refine And.intro (fun (_ : true = true) => ?_) (fun (h : true = false) => Bool.noConfusion h) | refine And.intro (fun (h : false = true) => Bool.noConfusion h) (fun (_ : false = false) => ?_)
      refine And.intro (fun hd => ?_) (fun hd => ?_)
      · exfalso
        simp [hq2] at hd
      · repeat first | refine And.intro rfl ?_ | refine And.intro True.intro ?_ | refine Or.inl (And.intro rfl ?_) | refine Or.inr (And.intro rfl ?_) | refine And.intro (fun (_ : true = true) => ?_) (fun (h : true = false) => Bool.noConfusion h) | refine And.intro (fun (h : false = true) => Bool.noConfusion h) (fun (_ : false = false) => ?_)
        refine Or.inl (And.intro (by exact tnEq (by cases f <;> rfl) (tq_four f q)) ?_)
        repeat first | refine And.intro rfl ?_ | refine And.intro True.intro ?_ | refine Or.inl (And.intro rfl ?_) | refine Or.inr (And.intro rfl ?_) | refine And.intro (fun (_ : true = true) => ?_) (fun (h : true = false) => Bool.noConfusion h) | refine And.intro (fun (h : false = true) => Bool.noConfusion h) (fun (_ : false = false) => ?_)
        cases f
        · repeat first | refine And.intro rfl ?_ | refine And.intro True.intro ?_ | refine Or.inl (And.intro rfl ?_) | refine Or.inr (And.intro rfl ?_) | refine And.intro (fun (_ : true = true) => ?_) (fun (h : true = false) => Bool.noConfusion h) | refine And.intro (fun (h : false = true) => Bool.noConfusion h) (fun (_ : false = false) => ?_)
          rfl
        · repeat first | refine And.intro rfl ?_ | refine And.intro True.intro ?_ | refine Or.inl (And.intro rfl ?_) | refine Or.inr (And.intro rfl ?_) | refine And.intro (fun (_ : true = true) => ?_) (fun (h : true = false) => Bool.noConfusion h) | refine And.intro (fun (h : false = true) => Bool.noConfusion h) (fun (_ : false = false) => ?_)
          refine Or.inl (And.intro (by exact tnEq rfl (tq_two q)) ?_)
          repeat first | refine And.intro rfl ?_ | refine And.intro True.intro ?_ | refine Or.inl (And.intro rfl ?_) | refine Or.inr (And.intro rfl ?_) | refine And.intro (fun (_ : true = true) => ?_) (fun (h : true = false) => Bool.noConfusion h) | refine And.intro (fun (h : false = true) => Bool.noConfusion h) (fun (_ : false = false) => ?_)
          rfl
  · cases h

/-! What the grain allows. -/

def sTurnAllowed : List RV → Option (Prop × Res)
  | [.one (.b (.val (.int .i64 g))), .one (.b (.val (.bool m))), .agg [.b (.val (.bool f)), .b (.val (.int .i64 q))], .agg [.b (.val (.bool f')), .b (.val (.int .i64 q'))]] => some (InR g ∧ InR q ∧ InR q', .r (.val (.bool true)))
  | _ => none

theorem alw_false {g : Int} {m f : Bool} {q : Int} : alw g m f q = true ↔ f = m ∧ (if g = 1 then q % 4 = 0 else if g = 2 then (q % 4 = 0 ∨ q % 4 = 2) else g = 4) := by
  unfold alw
  rw [Bool.and_eq_true, beq_iff_eq]
  by_cases h1 : g = 1
  · simp [h1]
  · by_cases h2 : g = 2
    · simp [h2]
    · simp [h1, h2]

theorem alw_inv {g : Int} {f : Bool} {q : Int} (h : alw g false f q = true) : alw g false f (tinv f q) = true := by
  rw [alw_false] at h ⊢
  obtain ⟨rfl, h⟩ := h
  refine ⟨rfl, ?_⟩
  unfold tinv
  simp only [cond_false]
  split at h
  · rw [if_pos ‹_›]; omega
  · rw [if_neg ‹_›]
    split at h
    · rw [if_pos ‹_›]; omega
    · rw [if_neg ‹_›]; exact h

theorem alw_mul {g : Int} {m f f' : Bool} {q q' : Int} (h : alw g false f q = true) (k : alw g m f' q' = true) : alw g m (!(f == f')) (tq q f' q') = true ∧ alw g m (!(f' == f)) (tq q' f q) = true := by
  rw [alw_false] at h k
  obtain ⟨rfl, h⟩ := h
  obtain ⟨rfl, k⟩ := k
  rw [alw_false, alw_false]
  refine ⟨⟨by cases f' <;> rfl, ?_⟩, ⟨by cases f' <;> rfl, ?_⟩⟩
  · unfold tq
    split at h
    · rw [if_pos ‹_›] at k ⊢; cases f' <;> simp <;> omega
    · rw [if_neg ‹_›] at k ⊢
      split at h
      · rw [if_pos ‹_›] at k ⊢; cases f' <;> simp <;> omega
      · rw [if_neg ‹_›]; exact h
  · unfold tq
    split at h
    · rw [if_pos ‹_›] at k ⊢; simp; omega
    · rw [if_neg ‹_›] at k ⊢
      split at h
      · rw [if_pos ‹_›] at k ⊢; simp; omega
      · rw [if_neg ‹_›]; exact h

set_option maxHeartbeats 2000000 in
theorem ok_TurnAllowed : Ok1 13 sTurnAllowed := by
  refine ok_of TL0_ok Try.func13 rfl (by kernel_rfl) ?_
  intro xs pre res h hp hlim
  unfold sTurnAllowed at h
  split at h
  · rename_i g m f q f' q'
    cases h
    refine And.intro (Nat.le_of_ble_eq_true rfl) ?_
    repeat first | refine And.intro rfl ?_ | refine And.intro True.intro ?_ | refine Or.inl (And.intro rfl ?_) | refine Or.inr (And.intro rfl ?_) | refine And.intro (fun (_ : true = true) => ?_) (fun (h : true = false) => Bool.noConfusion h) | refine And.intro (fun (h : false = true) => Bool.noConfusion h) (fun (_ : false = false) => ?_)
    refine And.intro (fun hc => ?_) (fun hc => ?_)
    · repeat first | refine And.intro rfl ?_ | refine And.intro True.intro ?_ | refine Or.inl (And.intro rfl ?_) | refine Or.inr (And.intro rfl ?_) | refine And.intro (fun (_ : true = true) => ?_) (fun (h : true = false) => Bool.noConfusion h) | refine And.intro (fun (h : false = true) => Bool.noConfusion h) (fun (_ : false = false) => ?_)
      rfl
    · have ha : alw g false f q = true := by simpa using hc
      repeat first | refine And.intro rfl ?_ | refine And.intro True.intro ?_ | refine Or.inl (And.intro rfl ?_) | refine Or.inr (And.intro rfl ?_) | refine And.intro (fun (_ : true = true) => ?_) (fun (h : true = false) => Bool.noConfusion h) | refine And.intro (fun (h : false = true) => Bool.noConfusion h) (fun (_ : false = false) => ?_)
      refine And.intro (fun hd => ?_) (fun hd => ?_)
      · exfalso
        rw [notF (alw_inv ha)] at hd
        cases hd
      · repeat first | refine And.intro rfl ?_ | refine And.intro True.intro ?_ | refine Or.inl (And.intro rfl ?_) | refine Or.inr (And.intro rfl ?_) | refine And.intro (fun (_ : true = true) => ?_) (fun (h : true = false) => Bool.noConfusion h) | refine And.intro (fun (h : false = true) => Bool.noConfusion h) (fun (_ : false = false) => ?_)
        cases hb : alw g m f' q' with
        | false =>
          repeat first | refine And.intro rfl ?_ | refine And.intro True.intro ?_ | refine Or.inl (And.intro rfl ?_) | refine Or.inr (And.intro rfl ?_) | refine And.intro (fun (_ : true = true) => ?_) (fun (h : true = false) => Bool.noConfusion h) | refine And.intro (fun (h : false = true) => Bool.noConfusion h) (fun (_ : false = false) => ?_)
          rfl
        | true =>
          obtain ⟨h1, h2⟩ := alw_mul (m := m) ha hb
          repeat first | refine And.intro rfl ?_ | refine And.intro True.intro ?_ | refine Or.inl (And.intro rfl ?_) | refine Or.inr (And.intro rfl ?_) | refine And.intro (fun (_ : true = true) => ?_) (fun (h : true = false) => Bool.noConfusion h) | refine And.intro (fun (h : false = true) => Bool.noConfusion h) (fun (_ : false = false) => ?_)
          refine Or.inl (And.intro (by exact h1) ?_)
          repeat first | refine And.intro rfl ?_ | refine And.intro True.intro ?_ | refine Or.inl (And.intro rfl ?_) | refine Or.inr (And.intro rfl ?_) | refine And.intro (fun (_ : true = true) => ?_) (fun (h : true = false) => Bool.noConfusion h) | refine And.intro (fun (h : false = true) => Bool.noConfusion h) (fun (_ : false = false) => ?_)
          refine Or.inl (And.intro (by exact h2) ?_)
          repeat first | refine And.intro rfl ?_ | refine And.intro True.intro ?_ | refine Or.inl (And.intro rfl ?_) | refine Or.inr (And.intro rfl ?_) | refine And.intro (fun (_ : true = true) => ?_) (fun (h : true = false) => Bool.noConfusion h) | refine And.intro (fun (h : false = true) => Bool.noConfusion h) (fun (_ : false = false) => ?_)
          rfl
  · cases h

/-! All that the grain allows. -/

def sTurnGrains : List RV → Option (Prop × Res)
  | [.one (.b (.val (.int .i64 g))), .one (.b (.val (.bool m))), .agg [.b (.val (.bool f)), .b (.val (.int .i64 q))]] => some (InR g ∧ InR q, .r (.val (.bool true)))
  | _ => none

def allQ (g : Int) (m : Bool) : Nat → List Int
  | 0 => []
  | k + 1 => cond (alw g m m k) (allQ g m k ++ [(k : Int)]) (allQ g m k)
theorem allK_eq (g : Int) (m : Bool) : ∀ k, allK g m k = (allQ g m k).map (fun x => tnB m x)
  | 0 => rfl
  | k + 1 => by
    unfold allK allQ
    rw [allK_eq g m k]
    cases alw g m m k <;> simp

theorem allQ_any (g : Int) (m f : Bool) (q : Int) : (allQ g m 4).any (fun x => m == f && x == q % 4) = alw g m f q := by
  have h4 := four q
  have hm : ∀ k : Int, alw g m m k = (if g = 1 then k % 4 == 0 else if g = 2 then (k % 4 == 0 || k % 4 == 2) else decide (g = 4)) := fun k => by unfold alw; simp
  simp only [allQ, hm]
  unfold alw
  have hfm : (f == m) = (m == f) := by cases f <;> cases m <;> rfl
  rw [hfm]
  by_cases h1 : g = 1
  · subst h1
    rcases h4 with h | h | h | h <;> rw [h] <;> cases (m == f) <;> rfl
  · by_cases h2 : g = 2
    · subst h2
      rcases h4 with h | h | h | h <;> rw [h] <;> cases (m == f) <;> rfl
    · by_cases h3 : g = 4
      · subst h3
        rcases h4 with h | h | h | h <;> rw [h] <;> cases (m == f) <;> rfl
      · simp only [if_neg h1, if_neg h2, h3, decide_false, cond_false, List.any_nil, Bool.and_false]

theorem getD_tn (m : Bool) (l : List Int) (i : Nat) (hi : i < l.length) : (l.map (fun x => tnB m x)).getD i [] = tnB m (l.getD i 0) := by
  simp [List.getD_eq_getElem?_getD, hi]
theorem any_succ {α : Type} (p : α → Bool) (l : List α) (d : α) (k : Nat) (hk : k < l.length) : (l.take (k + 1)).any p = ((l.take k).any p || p (l.getD k d)) := by
  rw [List.take_succ_eq_append_getElem hk, List.any_append, List.getD_eq_getElem?_getD, List.getElem?_eq_getElem hk]
  simp

set_option maxHeartbeats 2000000 in
theorem ok_TurnGrains : Ok1 6 sTurnGrains := by
  refine ok_of TL0_ok Try.func6 rfl (by kernel_rfl) ?_
  intro xs pre res h hp hlim
  unfold sTurnGrains at h
  split at h
  · rename_i g m f q
    cases h
    have hany := allQ_any g m f q
    have hlen : (allQ g m 4).length ≤ 4 := by have := allK_len g m 4; rw [allK_eq, List.length_map] at this; exact this
    obtain ⟨L, hL⟩ : ∃ L, L = allQ g m 4 := ⟨_, rfl⟩
    rw [← hL] at hany hlen
    have eK : allK g m 4 = L.map (fun x => tnB m x) := by rw [allK_eq, hL]
    clear hL
    refine And.intro (Nat.le_of_ble_eq_true rfl) ?_
    repeat first | refine And.intro rfl ?_ | refine And.intro True.intro ?_ | refine Or.inl (And.intro rfl ?_) | refine Or.inr (And.intro rfl ?_) | refine And.intro (fun (_ : true = true) => ?_) (fun (h : true = false) => Bool.noConfusion h) | refine And.intro (fun (h : false = true) => Bool.noConfusion h) (fun (_ : false = false) => ?_)
    rw [eK]
    repeat first | refine And.intro rfl ?_ | refine And.intro True.intro ?_ | refine Or.inl (And.intro rfl ?_) | refine Or.inr (And.intro rfl ?_) | refine And.intro (fun (_ : true = true) => ?_) (fun (h : true = false) => Bool.noConfusion h) | refine And.intro (fun (h : false = true) => Bool.noConfusion h) (fun (_ : false = false) => ?_)
    refine And.intro (fun hc => ?_) (fun hc => ?_)
    · exfalso
      simp at hc
    · repeat first | refine And.intro rfl ?_ | refine And.intro True.intro ?_ | refine Or.inl (And.intro rfl ?_) | refine Or.inr (And.intro rfl ?_) | refine And.intro (fun (_ : true = true) => ?_) (fun (h : true = false) => Bool.noConfusion h) | refine And.intro (fun (h : false = true) => Bool.noConfusion h) (fun (_ : false = false) => ?_)
      refine Exists.intro {k : Nat // k ≤ L.length} (Exists.intro (fun k => ⟨[(0, .val (.int .i64 g)), (1, .val (.bool m)), (5, .ptr 0 0), (7, .one (.sl 2 (L.map (fun x => tnB m x)))), (8, .one (.sl 2 (L.map (fun x => tnB m x)))), (9, .val (.bool ((L.take k.1).any (fun x => m == f && x == q % 4)))), (22, .one (.sl 2 (L.map (fun x => tnB m x)))), (23, .val (.int .i64 ((L.map (fun x => tnB m x)).length : Nat))), (24, .val (.int .i64 (k.1 : Nat)))], ⟨[(23, [.val (.bool f), .val (.int .i64 q)])], []⟩⟩) (Exists.intro (fun k => L.length - k.1) (Exists.intro ⟨0, by omega⟩ (And.intro ?_ ?_))))
      · repeat first | exact trivial | refine And.intro rfl ?_ | refine And.intro trivial ?_ | refine And.intro (And.intro rfl trivial) ?_ | refine And.intro (And.intro rfl (And.intro rfl trivial)) ?_
      · rintro ⟨k, hk⟩
        repeat first | refine And.intro rfl ?_ | refine And.intro True.intro ?_ | refine Or.inl (And.intro rfl ?_) | refine Or.inr (And.intro rfl ?_) | refine And.intro (fun (_ : true = true) => ?_) (fun (h : true = false) => Bool.noConfusion h) | refine And.intro (fun (h : false = true) => Bool.noConfusion h) (fun (_ : false = false) => ?_)
        refine And.intro (fun hc => ?_) (fun hc => ?_)
        · have hk' : (k : Int) < (L.map (fun x => tnB m x)).length := of_decide_eq_true hc
          have hkl : k < L.length := by rw [List.length_map] at hk'; omega
          have g1 : (L.map (fun x => tnB m x)).getD (k : Int).toNat [] = tnB m (L.getD k 0) := getD_tn m L k hkl
          have hs := any_succ (fun x => m == f && x == q % 4) L 0 k hkl
          repeat first | refine And.intro rfl ?_ | refine And.intro True.intro ?_ | refine Or.inl (And.intro rfl ?_) | refine Or.inr (And.intro rfl ?_) | refine And.intro (fun (_ : true = true) => ?_) (fun (h : true = false) => Bool.noConfusion h) | refine And.intro (fun (h : false = true) => Bool.noConfusion h) (fun (_ : false = false) => ?_)
          refine And.intro (show 0 ≤ (k : Int) ∧ (k : Int) < (L.map (fun x => tnB m x)).length by omega) ?_
          rw [g1]
          repeat first | refine And.intro rfl ?_ | refine And.intro True.intro ?_ | refine Or.inl (And.intro rfl ?_) | refine Or.inr (And.intro rfl ?_) | refine And.intro (fun (_ : true = true) => ?_) (fun (h : true = false) => Bool.noConfusion h) | refine And.intro (fun (h : false = true) => Bool.noConfusion h) (fun (_ : false = false) => ?_)
          refine And.intro (show 0 ≤ (k : Int) ∧ (k : Int) < (L.map (fun x => tnB m x)).length by omega) ?_
          rw [g1]
          repeat first | refine And.intro rfl ?_ | refine And.intro True.intro ?_ | refine Or.inl (And.intro rfl ?_) | refine Or.inr (And.intro rfl ?_) | refine And.intro (fun (_ : true = true) => ?_) (fun (h : true = false) => Bool.noConfusion h) | refine And.intro (fun (h : false = true) => Bool.noConfusion h) (fun (_ : false = false) => ?_)
          refine And.intro (fun hd => ?_) (fun hd => ?_)
          · exfalso
            simp at hd
          · repeat first | refine And.intro rfl ?_ | refine And.intro True.intro ?_ | refine Or.inl (And.intro rfl ?_) | refine Or.inr (And.intro rfl ?_) | refine And.intro (fun (_ : true = true) => ?_) (fun (h : true = false) => Bool.noConfusion h) | refine And.intro (fun (h : false = true) => Bool.noConfusion h) (fun (_ : false = false) => ?_)
            cases hb : (L.take k).any (fun x => m == f && x == q % 4) with
            | true =>
              repeat first | refine And.intro rfl ?_ | refine And.intro True.intro ?_ | refine Or.inl (And.intro rfl ?_) | refine Or.inr (And.intro rfl ?_) | refine And.intro (fun (_ : true = true) => ?_) (fun (h : true = false) => Bool.noConfusion h) | refine And.intro (fun (h : false = true) => Bool.noConfusion h) (fun (_ : false = false) => ?_)
              refine Exists.intro ⟨k + 1, by omega⟩ (And.intro (show L.length - (k + 1) < L.length - k by omega) ?_)
              repeat first | exact trivial | refine And.intro rfl ?_ | refine And.intro trivial ?_ | refine And.intro (And.intro rfl trivial) ?_ | refine And.intro (And.intro rfl (And.intro rfl trivial)) ?_
              refine And.intro (congrArg (fun b => AV.val (.bool b)) (show true = (L.take (k + 1)).any (fun x => m == f && x == q % 4) by rw [hs, hb]; rfl)) ?_
              repeat first | exact trivial | refine And.intro rfl ?_ | refine And.intro trivial ?_ | refine And.intro (And.intro rfl trivial) ?_ | refine And.intro (And.intro rfl (And.intro rfl trivial)) ?_
              exact And.intro (avI (show IntKind.i64.wrap ((k : Int) + 1) = ((k + 1 : Nat) : Int) by rw [wI (by omega) (by omega)]; omega)) trivial
            | false =>
              repeat first | refine And.intro rfl ?_ | refine And.intro True.intro ?_ | refine Or.inl (And.intro rfl ?_) | refine Or.inr (And.intro rfl ?_) | refine And.intro (fun (_ : true = true) => ?_) (fun (h : true = false) => Bool.noConfusion h) | refine And.intro (fun (h : false = true) => Bool.noConfusion h) (fun (_ : false = false) => ?_)
              refine And.intro (show 0 ≤ (k : Int) ∧ (k : Int) < (L.map (fun x => tnB m x)).length by omega) ?_
              rw [g1]
              repeat first | refine And.intro rfl ?_ | refine And.intro True.intro ?_ | refine Or.inl (And.intro rfl ?_) | refine Or.inr (And.intro rfl ?_) | refine And.intro (fun (_ : true = true) => ?_) (fun (h : true = false) => Bool.noConfusion h) | refine And.intro (fun (h : false = true) => Bool.noConfusion h) (fun (_ : false = false) => ?_)
              refine Exists.intro ⟨k + 1, by omega⟩ (And.intro (show L.length - (k + 1) < L.length - k by omega) ?_)
              repeat first | exact trivial | refine And.intro rfl ?_ | refine And.intro trivial ?_ | refine And.intro (And.intro rfl trivial) ?_ | refine And.intro (And.intro rfl (And.intro rfl trivial)) ?_
              refine And.intro (congrArg (fun b => AV.val (.bool b)) (show (m == f && L.getD k 0 == q % 4) = (L.take (k + 1)).any (fun x => m == f && x == q % 4) by rw [hs, hb]; rfl)) ?_
              repeat first | exact trivial | refine And.intro rfl ?_ | refine And.intro trivial ?_ | refine And.intro (And.intro rfl trivial) ?_ | refine And.intro (And.intro rfl (And.intro rfl trivial)) ?_
              exact And.intro (avI (show IntKind.i64.wrap ((k : Int) + 1) = ((k + 1 : Nat) : Int) by rw [wI (by omega) (by omega)]; omega)) trivial
        · have hk' : ¬ (k : Int) < (L.map (fun x => tnB m x)).length := of_decide_eq_false hc
          rw [List.length_map] at hk'
          have hall : (L.take k).any (fun x => m == f && x == q % 4) = alw g m f q := by rw [List.take_of_length_le (by omega), hany]
          repeat first | refine And.intro rfl ?_ | refine And.intro True.intro ?_ | refine Or.inl (And.intro rfl ?_) | refine Or.inr (And.intro rfl ?_) | refine And.intro (fun (_ : true = true) => ?_) (fun (h : true = false) => Bool.noConfusion h) | refine And.intro (fun (h : false = true) => Bool.noConfusion h) (fun (_ : false = false) => ?_)
          refine Or.inl (And.intro (by simp) ?_)
          repeat first | refine And.intro rfl ?_ | refine And.intro True.intro ?_ | refine Or.inl (And.intro rfl ?_) | refine Or.inr (And.intro rfl ?_) | refine And.intro (fun (_ : true = true) => ?_) (fun (h : true = false) => Bool.noConfusion h) | refine And.intro (fun (h : false = true) => Bool.noConfusion h) (fun (_ : false = false) => ?_)
          refine Or.inl (And.intro (by (show (alw g m f q == (L.take k).any (fun x => m == f && x == q % 4)) = true); rw [hall]; simp) ?_)
          repeat first | refine And.intro rfl ?_ | refine And.intro True.intro ?_ | refine Or.inl (And.intro rfl ?_) | refine Or.inr (And.intro rfl ?_) | refine And.intro (fun (_ : true = true) => ?_) (fun (h : true = false) => Bool.noConfusion h) | refine And.intro (fun (h : false = true) => Bool.noConfusion h) (fun (_ : false = false) => ?_)
          rfl
  · cases h

/-! Distances. -/

def sNear : List RV → Option (Prop × Res)
  | [.agg [.b (.val (.int .i64 x)), .b (.val (.int .i64 y))]] => some (True, .r (.val (.bool (decide (x ≥ -1048576) && decide (x ≤ 1048576) && decide (y ≥ -1048576) && decide (y ≤ 1048576)))))
  | _ => none

theorem ok_near : Ok1 58 sNear := by
  refine ok_of TN0_ok Try.func58 rfl (by kernel_rfl) ?_
  intro xs pre res h hp hlim
  unfold sNear at h
  split at h
  · rename_i x y
    cases h
    refine And.intro (Nat.le_of_ble_eq_true rfl) ?_
    repeat first | refine And.intro rfl ?_ | refine And.intro True.intro ?_ | refine Or.inl (And.intro rfl ?_) | refine Or.inr (And.intro rfl ?_) | refine And.intro (fun (_ : true = true) => ?_) (fun (h : true = false) => Bool.noConfusion h) | refine And.intro (fun (h : false = true) => Bool.noConfusion h) (fun (_ : false = false) => ?_)
    cases h1 : decide (x ≥ -1048576)
    · refine Or.inr (And.intro h1 ?_)
      repeat first | refine And.intro rfl ?_ | refine And.intro True.intro ?_ | refine Or.inl (And.intro rfl ?_) | refine Or.inr (And.intro rfl ?_) | refine And.intro (fun (_ : true = true) => ?_) (fun (h : true = false) => Bool.noConfusion h) | refine And.intro (fun (h : false = true) => Bool.noConfusion h) (fun (_ : false = false) => ?_)
      rfl
    · refine Or.inl (And.intro h1 ?_)
      repeat first | refine And.intro rfl ?_ | refine And.intro True.intro ?_ | refine Or.inl (And.intro rfl ?_) | refine Or.inr (And.intro rfl ?_) | refine And.intro (fun (_ : true = true) => ?_) (fun (h : true = false) => Bool.noConfusion h) | refine And.intro (fun (h : false = true) => Bool.noConfusion h) (fun (_ : false = false) => ?_)
      cases h2 : decide (x ≤ 1048576)
      · refine Or.inr (And.intro h2 ?_)
        repeat first | refine And.intro rfl ?_ | refine And.intro True.intro ?_ | refine Or.inl (And.intro rfl ?_) | refine Or.inr (And.intro rfl ?_) | refine And.intro (fun (_ : true = true) => ?_) (fun (h : true = false) => Bool.noConfusion h) | refine And.intro (fun (h : false = true) => Bool.noConfusion h) (fun (_ : false = false) => ?_)
        rfl
      · refine Or.inl (And.intro h2 ?_)
        repeat first | refine And.intro rfl ?_ | refine And.intro True.intro ?_ | refine Or.inl (And.intro rfl ?_) | refine Or.inr (And.intro rfl ?_) | refine And.intro (fun (_ : true = true) => ?_) (fun (h : true = false) => Bool.noConfusion h) | refine And.intro (fun (h : false = true) => Bool.noConfusion h) (fun (_ : false = false) => ?_)
        cases h3 : decide (y ≥ -1048576)
        · refine Or.inr (And.intro h3 ?_)
          repeat first | refine And.intro rfl ?_ | refine And.intro True.intro ?_ | refine Or.inl (And.intro rfl ?_) | refine Or.inr (And.intro rfl ?_) | refine And.intro (fun (_ : true = true) => ?_) (fun (h : true = false) => Bool.noConfusion h) | refine And.intro (fun (h : false = true) => Bool.noConfusion h) (fun (_ : false = false) => ?_)
          rfl
        · refine Or.inl (And.intro h3 ?_)
          repeat first | refine And.intro rfl ?_ | refine And.intro True.intro ?_ | refine Or.inl (And.intro rfl ?_) | refine Or.inr (And.intro rfl ?_) | refine And.intro (fun (_ : true = true) => ?_) (fun (h : true = false) => Bool.noConfusion h) | refine And.intro (fun (h : false = true) => Bool.noConfusion h) (fun (_ : false = false) => ?_)
          rfl
  · cases h

def sTurnKeeps : List RV → Option (Prop × Res)
  | [.agg [.b (.val (.bool f)), .b (.val (.int .i64 q))], .agg [.b (.val (.int .i64 x)), .b (.val (.int .i64 y))], .agg [.b (.val (.int .i64 x')), .b (.val (.int .i64 y'))]] => some (InR q ∧ (InR x ∧ InR y) ∧ InR x' ∧ InR y', .r (.val (.bool true)))
  | _ => none

def TL1 : Table := (58, sNear) :: TL0
theorem TL1_ok : TabOk TL1 := TabOk.cons ok_near TL0_ok

/-- Within the limits of coordinates. -/
abbrev Nr (x : Int) : Prop := -1048576 ≤ x ∧ x ≤ 1048576
theorem ng_near {x : Int} (h : Nr x) : ng x = -x := by
  unfold ng
  rw [wI (by omega) (by omega)]
  omega

theorem mul_small {a b : Int} {N : Nat} (ha : a.natAbs ≤ N) (hb : b.natAbs ≤ N) : (a * b).natAbs ≤ N * N := by
  rw [Int.natAbs_mul]
  exact Nat.mul_le_mul ha hb
theorem wMul {a b : Int} (ha : a.natAbs ≤ 2097152) (hb : b.natAbs ≤ 2097152) : IntKind.i64.wrap (a * b) = a * b := by
  have := mul_small ha hb
  exact wI (by omega) (by omega)

/-- The square of a distance as the law computes it. -/
def dst (x y x' y' : Int) : Int := IntKind.i64.wrap (IntKind.i64.wrap (IntKind.i64.wrap (x - x') * IntKind.i64.wrap (x - x')) + IntKind.i64.wrap (IntKind.i64.wrap (y - y') * IntKind.i64.wrap (y - y')))
def crs (x y x' y' : Int) : Int := IntKind.i64.wrap (IntKind.i64.wrap (x * y') - IntKind.i64.wrap (y * x'))
theorem dst_eq {x y x' y' : Int} (h : Nr x) (h1 : Nr y) (h2 : Nr x') (h3 : Nr y') : dst x y x' y' = (x - x') * (x - x') + (y - y') * (y - y') := by
  unfold dst
  rw [wI (x := x - x') (by omega) (by omega), wI (x := y - y') (by omega) (by omega)]
  have a : (x - x').natAbs ≤ 2097152 := by omega
  have b : (y - y').natAbs ≤ 2097152 := by omega
  rw [wMul a a, wMul b b]
  have a2 := mul_small a a
  have b2 := mul_small b b
  exact wI (by omega) (by omega)
theorem crs_eq {x y x' y' : Int} (h : Nr x) (h1 : Nr y) (h2 : Nr x') (h3 : Nr y') : crs x y x' y' = x * y' - y * x' := by
  unfold crs
  have a : x.natAbs ≤ 2097152 := by omega
  have b : y.natAbs ≤ 2097152 := by omega
  have a' : x'.natAbs ≤ 2097152 := by omega
  have b' : y'.natAbs ≤ 2097152 := by omega
  rw [wMul a b', wMul b a']
  have a2 := mul_small a b'
  have b2 := mul_small b a'
  exact wI (by omega) (by omega)
theorem nr_neg {x : Int} (h : Nr x) : Nr (-x) := by omega

/-- What a turn does near the origin. -/
def apN (f : Bool) (r : Nat) (x y : Int) : Int × Int := match r with
  | 0 => (cond f (-x) x, y)
  | 1 => (-y, cond f (-x) x)
  | 2 => (-(cond f (-x) x), -y)
  | _ => (y, -(cond f (-x) x))
theorem ap_near (f : Bool) (q : Int) {x y : Int} (hx : Nr x) (hy : Nr y) : apZ f q (x, y) = apN f (q % 4).toNat x y := by
  have hx' : Nr (cond f (-x) x) := by cases f <;> simp <;> omega
  have e : (cond f (ng x) x) = cond f (-x) x := by cases f <;> simp [ng_near hx]
  rcases four q with h | h | h | h <;> unfold apZ <;> rw [h, e]
  · rfl
  · show (ng y, cond f (-x) x) = (-y, cond f (-x) x)
    rw [ng_near hy]
  · show (ng (cond f (-x) x), ng y) = (-(cond f (-x) x), -y)
    rw [ng_near hy, ng_near hx']
  · show (ng (ng y), ng (cond f (-x) x)) = (y, -(cond f (-x) x))
    rw [ng_near hy, ng_near (nr_neg hy), ng_near hx', Int.neg_neg]
theorem apN_near (f : Bool) (r : Nat) {x y : Int} (hx : Nr x) (hy : Nr y) : Nr (apN f r x y).1 ∧ Nr (apN f r x y).2 := by
  unfold apN
  split <;> cases f <;> simp <;> omega

theorem dst_ap (f : Bool) (q : Int) {x y x' y' : Int} (h : Nr x) (h1 : Nr y) (h2 : Nr x') (h3 : Nr y') : dst x y x' y' = dst (apZ f q (x, y)).1 (apZ f q (x, y)).2 (apZ f q (x', y')).1 (apZ f q (x', y')).2 := by
  rw [ap_near f q h h1, ap_near f q h2 h3]
  obtain ⟨a, b⟩ := apN_near f (q % 4).toNat h h1
  obtain ⟨c, d⟩ := apN_near f (q % 4).toNat h2 h3
  rw [dst_eq h h1 h2 h3, dst_eq a b c d]
  unfold apN
  split <;> cases f <;> simp only [cond_true, cond_false] <;> grind

theorem crs_ap (f : Bool) (q : Int) {x y x' y' : Int} (h : Nr x) (h1 : Nr y) (h2 : Nr x') (h3 : Nr y') : cond f (ng (crs x y x' y')) (crs x y x' y') = crs (apZ f q (x, y)).1 (apZ f q (x, y)).2 (apZ f q (x', y')).1 (apZ f q (x', y')).2 := by
  rw [ap_near f q h h1, ap_near f q h2 h3]
  obtain ⟨a, b⟩ := apN_near f (q % 4).toNat h h1
  obtain ⟨c, d⟩ := apN_near f (q % 4).toNat h2 h3
  have e : ng (crs x y x' y') = -(crs x y x' y') := by
    rw [crs_eq h h1 h2 h3]
    have a2 := mul_small (show x.natAbs ≤ 2097152 by omega) (show y'.natAbs ≤ 2097152 by omega)
    have b2 := mul_small (show y.natAbs ≤ 2097152 by omega) (show x'.natAbs ≤ 2097152 by omega)
    unfold ng
    rw [wI (by omega) (by omega)]
    omega
  rw [e, crs_eq h h1 h2 h3, crs_eq a b c d]
  unfold apN
  split <;> cases f <;> simp only [cond_true, cond_false] <;> grind

theorem near_of {x y : Int} (h : (decide (x ≥ -1048576) && decide (x ≤ 1048576) && decide (y ≥ -1048576) && decide (y ≤ 1048576)) = true) : Nr x ∧ Nr y := by
  simp only [Bool.and_eq_true, decide_eq_true_eq] at h
  exact ⟨⟨h.1.1.1, h.1.1.2⟩, h.1.2, h.2⟩

theorem beqZ {a b : Int} (h : a = b) : (a == b) = true := by rw [h]; simp

set_option maxRecDepth 100000 in
set_option maxHeartbeats 2000000 in
theorem ok_TurnKeeps : Ok1 10 sTurnKeeps := by
  refine ok_of TL1_ok Try.func10 rfl (by kernel_rfl) ?_
  intro xs pre res h hp hlim
  unfold sTurnKeeps at h
  split at h
  · rename_i f q x y x' y'
    cases h
    obtain ⟨ne, hne⟩ : ∃ b, b = (decide (x ≥ -1048576) && decide (x ≤ 1048576) && decide (y ≥ -1048576) && decide (y ≤ 1048576)) := ⟨_, rfl⟩
    obtain ⟨ne', hne'⟩ : ∃ b, b = (decide (x' ≥ -1048576) && decide (x' ≤ 1048576) && decide (y' ≥ -1048576) && decide (y' ≤ 1048576)) := ⟨_, rfl⟩
    refine And.intro (Nat.le_of_ble_eq_true rfl) ?_
    repeat first | refine And.intro rfl ?_ | refine And.intro True.intro ?_ | refine Or.inl (And.intro rfl ?_) | refine Or.inr (And.intro rfl ?_) | refine And.intro (fun (_ : true = true) => ?_) (fun (h : true = false) => Bool.noConfusion h) | refine And.intro (fun (h : false = true) => Bool.noConfusion h) (fun (_ : false = false) => ?_)
    rw [← hne]
    cases ne with
    | false =>
      repeat first | refine And.intro rfl ?_ | refine And.intro True.intro ?_ | refine Or.inl (And.intro rfl ?_) | refine Or.inr (And.intro rfl ?_) | refine And.intro (fun (_ : true = true) => ?_) (fun (h : true = false) => Bool.noConfusion h) | refine And.intro (fun (h : false = true) => Bool.noConfusion h) (fun (_ : false = false) => ?_)
      rfl
    | true =>
      obtain ⟨hx, hy⟩ := near_of hne.symm
      repeat first | refine And.intro rfl ?_ | refine And.intro True.intro ?_ | refine Or.inl (And.intro rfl ?_) | refine Or.inr (And.intro rfl ?_) | refine And.intro (fun (_ : true = true) => ?_) (fun (h : true = false) => Bool.noConfusion h) | refine And.intro (fun (h : false = true) => Bool.noConfusion h) (fun (_ : false = false) => ?_)
      rw [← hne']
      cases ne' with
      | false =>
        repeat first | refine And.intro rfl ?_ | refine And.intro True.intro ?_ | refine Or.inl (And.intro rfl ?_) | refine Or.inr (And.intro rfl ?_) | refine And.intro (fun (_ : true = true) => ?_) (fun (h : true = false) => Bool.noConfusion h) | refine And.intro (fun (h : false = true) => Bool.noConfusion h) (fun (_ : false = false) => ?_)
        rfl
      | true =>
        obtain ⟨hx', hy'⟩ := near_of hne'.symm
        have hd := dst_ap f q hx hy hx' hy'
        have hv := crs_ap f q hx hy hx' hy'
        cases f with
        | false =>
          repeat first | refine And.intro rfl ?_ | refine And.intro True.intro ?_ | refine Or.inl (And.intro rfl ?_) | refine Or.inr (And.intro rfl ?_) | refine And.intro (fun (_ : true = true) => ?_) (fun (h : true = false) => Bool.noConfusion h) | refine And.intro (fun (h : false = true) => Bool.noConfusion h) (fun (_ : false = false) => ?_)
          refine Or.inl (And.intro (by exact beqZ hd) ?_)
          repeat first | refine And.intro rfl ?_ | refine And.intro True.intro ?_ | refine Or.inl (And.intro rfl ?_) | refine Or.inr (And.intro rfl ?_) | refine And.intro (fun (_ : true = true) => ?_) (fun (h : true = false) => Bool.noConfusion h) | refine And.intro (fun (h : false = true) => Bool.noConfusion h) (fun (_ : false = false) => ?_)
          refine Or.inl (And.intro (by exact beqZ hv) ?_)
          repeat first | refine And.intro rfl ?_ | refine And.intro True.intro ?_ | refine Or.inl (And.intro rfl ?_) | refine Or.inr (And.intro rfl ?_) | refine And.intro (fun (_ : true = true) => ?_) (fun (h : true = false) => Bool.noConfusion h) | refine And.intro (fun (h : false = true) => Bool.noConfusion h) (fun (_ : false = false) => ?_)
          rfl
        | true =>
          repeat first | refine And.intro rfl ?_ | refine And.intro True.intro ?_ | refine Or.inl (And.intro rfl ?_) | refine Or.inr (And.intro rfl ?_) | refine And.intro (fun (_ : true = true) => ?_) (fun (h : true = false) => Bool.noConfusion h) | refine And.intro (fun (h : false = true) => Bool.noConfusion h) (fun (_ : false = false) => ?_)
          refine Or.inl (And.intro (by exact beqZ hd) ?_)
          repeat first | refine And.intro rfl ?_ | refine And.intro True.intro ?_ | refine Or.inl (And.intro rfl ?_) | refine Or.inr (And.intro rfl ?_) | refine And.intro (fun (_ : true = true) => ?_) (fun (h : true = false) => Bool.noConfusion h) | refine And.intro (fun (h : false = true) => Bool.noConfusion h) (fun (_ : false = false) => ?_)
          refine Or.inl (And.intro (by exact beqZ hv) ?_)
          repeat first | refine And.intro rfl ?_ | refine And.intro True.intro ?_ | refine Or.inl (And.intro rfl ?_) | refine Or.inr (And.intro rfl ?_) | refine And.intro (fun (_ : true = true) => ?_) (fun (h : true = false) => Bool.noConfusion h) | refine And.intro (fun (h : false = true) => Bool.noConfusion h) (fun (_ : false = false) => ?_)
          rfl
  · cases h

end Go.Gm
