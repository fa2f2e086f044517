/-
  What the statements about points call: Same, SameRatio, Exact, Few, Short, part, whole, Of. Plain theorems; no condition.
-/
import Derived.Test.YtihmifpdnipdmaaGreatRefM
import Derived.Test.YtihmifpdnipdmaaGreatSame
set_option linter.all false
namespace Go.Gm
open Go.Proofs

set_option maxHeartbeats 1000000 in
theorem ok_SameInt2 : Ok1 41 sSameInt := by
  refine ok_of TabOk.nil Tryz.func41 rfl (by kernel_rfl) ?_
  intro xs pre res h hp hlim
  unfold sSameInt at h
  split at h
  · rename_i s l s' l'
    cases h
    refine And.intro (Nat.le_of_ble_eq_true rfl) ?_
    repeat first | refine And.intro rfl ?_ | refine Or.inl (And.intro rfl ?_) | refine Or.inr (And.intro rfl ?_) | refine And.intro (fun (_ : true = true) => ?_) (fun (h : true = false) => Bool.noConfusion h) | refine And.intro (fun (h : false = true) => Bool.noConfusion h) (fun (_ : false = false) => ?_)
    by_cases hs : s = s'
    case neg =>
      refine Or.inr (And.intro (show (!(s == s')) = true by simp [hs]) ?_)
      repeat first | refine And.intro rfl ?_ | refine Or.inl (And.intro rfl ?_) | refine Or.inr (And.intro rfl ?_) | refine And.intro (fun (_ : true = true) => ?_) (fun (h : true = false) => Bool.noConfusion h) | refine And.intro (fun (h : false = true) => Bool.noConfusion h) (fun (_ : false = false) => ?_)
      exact resB (by simp [hs])
    subst hs
    refine Or.inl (And.intro (show (!(s == s)) = false by simp) ?_)
    repeat first | refine And.intro rfl ?_ | refine Or.inl (And.intro rfl ?_) | refine Or.inr (And.intro rfl ?_) | refine And.intro (fun (_ : true = true) => ?_) (fun (h : true = false) => Bool.noConfusion h) | refine And.intro (fun (h : false = true) => Bool.noConfusion h) (fun (_ : false = false) => ?_)
    refine And.intro (fun hc => ?_) (fun hc => ?_)
    · have hne : l.length ≠ l'.length := by
        intro h
        rw [h] at hc
        simp at hc
      repeat first | refine And.intro rfl ?_ | refine Or.inl (And.intro rfl ?_) | refine Or.inr (And.intro rfl ?_) | refine And.intro (fun (_ : true = true) => ?_) (fun (h : true = false) => Bool.noConfusion h) | refine And.intro (fun (h : false = true) => Bool.noConfusion h) (fun (_ : false = false) => ?_)
      exact resB (decide_eq_false (fun h => hne (by rw [h.2]))).symm
    · have hle : l.length = l'.length := by
        have : ((l.length : Int) != (l'.length : Int)) = false := hc
        simp at this
        omega
      repeat first | refine And.intro rfl ?_ | refine Or.inl (And.intro rfl ?_) | refine Or.inr (And.intro rfl ?_) | refine And.intro (fun (_ : true = true) => ?_) (fun (h : true = false) => Bool.noConfusion h) | refine And.intro (fun (h : false = true) => Bool.noConfusion h) (fun (_ : false = false) => ?_)
      refine Exists.intro {i : Nat // i ≤ l.length ∧ l.take i = l'.take i} (Exists.intro (fun i => ⟨[(2, .ptr 0 0), (3, .ptr 1 0), (5, .val (.int .i64 (i.1 : Nat)))], ⟨[(25, [.val (.bool s), .nat l]), (25, [.val (.bool s), .nat l'])], []⟩⟩) (Exists.intro (fun i => l.length - i.1) (Exists.intro ⟨0, Nat.zero_le _, rfl⟩ (And.intro ?_ ?_))))
      · repeat first | exact trivial | refine And.intro rfl ?_ | refine And.intro trivial ?_ | refine And.intro (And.intro rfl trivial) ?_ | refine And.intro (And.intro rfl (And.intro rfl trivial)) ?_
      · rintro ⟨i, hi, ht⟩
        repeat first | refine And.intro rfl ?_ | refine Or.inl (And.intro rfl ?_) | refine Or.inr (And.intro rfl ?_) | refine And.intro (fun (_ : true = true) => ?_) (fun (h : true = false) => Bool.noConfusion h) | refine And.intro (fun (h : false = true) => Bool.noConfusion h) (fun (_ : false = false) => ?_)
        refine And.intro (fun hc => ?_) (fun hc => ?_)
        · have hi' : (i : Int) < l.length := of_decide_eq_true hc
          repeat first | refine And.intro rfl ?_ | refine Or.inl (And.intro rfl ?_) | refine Or.inr (And.intro rfl ?_) | refine And.intro (fun (_ : true = true) => ?_) (fun (h : true = false) => Bool.noConfusion h) | refine And.intro (fun (h : false = true) => Bool.noConfusion h) (fun (_ : false = false) => ?_)
          refine And.intro (show 0 ≤ (i : Int) ∧ (i : Int) < (l.length : Int) by omega) ?_
          repeat first | refine And.intro rfl ?_ | refine Or.inl (And.intro rfl ?_) | refine Or.inr (And.intro rfl ?_) | refine And.intro (fun (_ : true = true) => ?_) (fun (h : true = false) => Bool.noConfusion h) | refine And.intro (fun (h : false = true) => Bool.noConfusion h) (fun (_ : false = false) => ?_)
          refine And.intro (show 0 ≤ (i : Int) ∧ (i : Int) < (l'.length : Int) by omega) ?_
          repeat first | refine And.intro rfl ?_ | refine Or.inl (And.intro rfl ?_) | refine Or.inr (And.intro rfl ?_) | refine And.intro (fun (_ : true = true) => ?_) (fun (h : true = false) => Bool.noConfusion h) | refine And.intro (fun (h : false = true) => Bool.noConfusion h) (fun (_ : false = false) => ?_)
          refine And.intro (fun hx => ?_) (fun hx => ?_)
          · have hx : (((l.getD (i : Int).toNat 0 : Nat) : Int) != ((l'.getD (i : Int).toNat 0 : Nat) : Int)) = true := hx
            repeat first | refine And.intro rfl ?_ | refine Or.inl (And.intro rfl ?_) | refine Or.inr (And.intro rfl ?_) | refine And.intro (fun (_ : true = true) => ?_) (fun (h : true = false) => Bool.noConfusion h) | refine And.intro (fun (h : false = true) => Bool.noConfusion h) (fun (_ : false = false) => ?_)
            refine resB (decide_eq_false (fun h => ?_)).symm
            rw [h.2] at hx
            simp at hx
          · have hx : (((l.getD (i : Int).toNat 0 : Nat) : Int) != ((l'.getD (i : Int).toNat 0 : Nat) : Int)) = false := hx
            rw [Int.toNat_natCast] at hx
            have hx : l.getD i 0 = l'.getD i 0 := by
              simp only [bne_eq_false_iff_eq] at hx
              omega
            repeat first | refine And.intro rfl ?_ | refine Or.inl (And.intro rfl ?_) | refine Or.inr (And.intro rfl ?_) | refine And.intro (fun (_ : true = true) => ?_) (fun (h : true = false) => Bool.noConfusion h) | refine And.intro (fun (h : false = true) => Bool.noConfusion h) (fun (_ : false = false) => ?_)
            refine Exists.intro ⟨i + 1, by omega, by rw [take_snoc l 0 i (by omega), take_snoc l' 0 i (by omega), ht, hx]⟩ (And.intro (show l.length - (i + 1) < l.length - i by omega) ?_)
            repeat first | exact trivial | refine And.intro rfl ?_ | refine And.intro trivial ?_ | refine And.intro (And.intro rfl trivial) ?_ | refine And.intro (And.intro rfl (And.intro rfl trivial)) ?_
            exact And.intro (avI (show IntKind.i64.wrap ((i : Int) + 1) = ((i + 1 : Nat) : Int) by rw [wI (by omega) (by omega)]; omega)) trivial
        · have hi' : ¬ (i : Int) < l.length := of_decide_eq_false hc
          rw [List.take_of_length_le (by omega), List.take_of_length_le (by omega)] at ht
          repeat first | refine And.intro rfl ?_ | refine Or.inl (And.intro rfl ?_) | refine Or.inr (And.intro rfl ?_) | refine And.intro (fun (_ : true = true) => ?_) (fun (h : true = false) => Bool.noConfusion h) | refine And.intro (fun (h : false = true) => Bool.noConfusion h) (fun (_ : false = false) => ?_)
          exact resB (by simp [ht])
  · cases h

def TAw0 : Table := (41, sSameInt) :: TS0
theorem TAw0_ok : TabOk TAw0 := TabOk.cons ok_SameInt2 TS0_ok

theorem ok_SameRat8 : Ok1 21 sSameRat := by
  refine ok_of TAw0_ok Tryz.func21 rfl (by kernel_rfl) ?_
  intro xs pre res h hp hlim
  unfold sSameRat at h
  split at h
  · rename_i s l t s' l' t'
    cases h
    refine And.intro (Nat.le_of_ble_eq_true rfl) ?_
    repeat first | refine And.intro rfl ?_ | refine Or.inl (And.intro rfl ?_) | refine Or.inr (And.intro rfl ?_) | refine And.intro (fun (_ : true = true) => ?_) (fun (h : true = false) => Bool.noConfusion h) | refine And.intro (fun (h : false = true) => Bool.noConfusion h) (fun (_ : false = false) => ?_)
    refine And.intro hp.1 ?_
    repeat first | refine And.intro rfl ?_ | refine Or.inl (And.intro rfl ?_) | refine Or.inr (And.intro rfl ?_) | refine And.intro (fun (_ : true = true) => ?_) (fun (h : true = false) => Bool.noConfusion h) | refine And.intro (fun (h : false = true) => Bool.noConfusion h) (fun (_ : false = false) => ?_)
    by_cases hs : s = s' ∧ l = l'
    · refine Or.inl (And.intro (decide_eq_true hs) ?_)
      repeat first | refine And.intro rfl ?_ | refine Or.inl (And.intro rfl ?_) | refine Or.inr (And.intro rfl ?_) | refine And.intro (fun (_ : true = true) => ?_) (fun (h : true = false) => Bool.noConfusion h) | refine And.intro (fun (h : false = true) => Bool.noConfusion h) (fun (_ : false = false) => ?_)
      refine And.intro hp.2 ?_
      repeat first | refine And.intro rfl ?_ | refine Or.inl (And.intro rfl ?_) | refine Or.inr (And.intro rfl ?_) | refine And.intro (fun (_ : true = true) => ?_) (fun (h : true = false) => Bool.noConfusion h) | refine And.intro (fun (h : false = true) => Bool.noConfusion h) (fun (_ : false = false) => ?_)
      exact resB (by simp [hs])
    · refine Or.inr (And.intro (decide_eq_false hs) ?_)
      repeat first | refine And.intro rfl ?_ | refine Or.inl (And.intro rfl ?_) | refine Or.inr (And.intro rfl ?_) | refine And.intro (fun (_ : true = true) => ?_) (fun (h : true = false) => Bool.noConfusion h) | refine And.intro (fun (h : false = true) => Bool.noConfusion h) (fun (_ : false = false) => ?_)
      exact resB (decide_eq_false (fun h => hs ⟨h.1, h.2.1⟩)).symm
  · cases h

def TAw1 : Table := (21, sSameRat) :: TAw0
theorem TAw1_ok : TabOk TAw1 := TabOk.cons ok_SameRat8 TAw0_ok

def sExact : List RV → Option (Prop × Res)
  | [.agg [.b (.val (.bool s0)), .b (.nat l0), .b (.nat t0), .b (.val (.bool z0)), .b (.nat k0), .b (.nat u0)], .agg [.b (.val (.bool s1)), .b (.nat l1), .b (.nat t1), .b (.val (.bool z1)), .b (.nat k1), .b (.nat u1)]] => some (l0.length ≤ 1000000 ∧ t0.length ≤ 1000000 ∧ k0.length ≤ 1000000 ∧ u0.length ≤ 1000000, .r (.val (.bool (samePR ⟨s0, l0, t0, z0, k0, u0⟩ ⟨s1, l1, t1, z1, k1, u1⟩))))
  | _ => none

theorem ok_Exact : Ok1 12 sExact := by
  refine ok_of TAw1_ok Tryz.func12 rfl (by kernel_rfl) ?_
  intro xs pre res h hp hlim
  unfold sExact at h
  split at h
  · rename_i s0 l0 t0 z0 k0 u0 s1 l1 t1 z1 k1 u1
    cases h
    obtain ⟨p1, p2, p3, p4⟩ := hp
    refine And.intro (Nat.le_of_ble_eq_true rfl) ?_
    repeat first | refine And.intro rfl ?_ | refine Or.inl (And.intro rfl ?_) | refine Or.inr (And.intro rfl ?_) | refine And.intro (fun (_ : true = true) => ?_) (fun (h : true = false) => Bool.noConfusion h) | refine And.intro (fun (h : false = true) => Bool.noConfusion h) (fun (_ : false = false) => ?_)
    refine And.intro (And.intro p1 p2) ?_
    repeat first | refine And.intro rfl ?_ | refine Or.inl (And.intro rfl ?_) | refine Or.inr (And.intro rfl ?_) | refine And.intro (fun (_ : true = true) => ?_) (fun (h : true = false) => Bool.noConfusion h) | refine And.intro (fun (h : false = true) => Bool.noConfusion h) (fun (_ : false = false) => ?_)
    by_cases hs : s0 = s1 ∧ l0 = l1 ∧ t0 = t1
    · refine Or.inl (And.intro (decide_eq_true hs) ?_)
      repeat first | refine And.intro rfl ?_ | refine Or.inl (And.intro rfl ?_) | refine Or.inr (And.intro rfl ?_) | refine And.intro (fun (_ : true = true) => ?_) (fun (h : true = false) => Bool.noConfusion h) | refine And.intro (fun (h : false = true) => Bool.noConfusion h) (fun (_ : false = false) => ?_)
      refine And.intro (And.intro p3 p4) ?_
      repeat first | refine And.intro rfl ?_ | refine Or.inl (And.intro rfl ?_) | refine Or.inr (And.intro rfl ?_) | refine And.intro (fun (_ : true = true) => ?_) (fun (h : true = false) => Bool.noConfusion h) | refine And.intro (fun (h : false = true) => Bool.noConfusion h) (fun (_ : false = false) => ?_)
      refine resB ?_
      show _ = (decide (s0 = s1 ∧ l0 = l1 ∧ t0 = t1) && decide (z0 = z1 ∧ k0 = k1 ∧ u0 = u1))
      rw [decide_eq_true hs]
      rfl
    · refine Or.inr (And.intro (decide_eq_false hs) ?_)
      repeat first | refine And.intro rfl ?_ | refine Or.inl (And.intro rfl ?_) | refine Or.inr (And.intro rfl ?_) | refine And.intro (fun (_ : true = true) => ?_) (fun (h : true = false) => Bool.noConfusion h) | refine And.intro (fun (h : false = true) => Bool.noConfusion h) (fun (_ : false = false) => ?_)
      refine resB ?_
      show _ = (decide (s0 = s1 ∧ l0 = l1 ∧ t0 = t1) && decide (z0 = z1 ∧ k0 = k1 ∧ u0 = u1))
      rw [decide_eq_false hs]
      rfl
  · cases h

theorem ok_Few : Ok1 36 sLight3 := by
  refine ok_of TS0_ok Tryz.func36 rfl (by kernel_rfl) ?_
  intro xs pre res h hp hlim
  unfold sLight3 at h
  split at h
  · rename_i s l t n
    cases h
    refine And.intro (Nat.le_of_ble_eq_true rfl) ?_
    repeat first | refine And.intro rfl ?_ | refine Or.inl (And.intro rfl ?_) | refine Or.inr (And.intro rfl ?_) | refine And.intro (fun (_ : true = true) => ?_) (fun (h : true = false) => Bool.noConfusion h) | refine And.intro (fun (h : false = true) => Bool.noConfusion h) (fun (_ : false = false) => ?_)
    by_cases h1 : (l.length : Int) ≤ n
    · refine Or.inl (And.intro (decide_eq_true h1) ?_)
      repeat first | refine And.intro rfl ?_ | refine Or.inl (And.intro rfl ?_) | refine Or.inr (And.intro rfl ?_) | refine And.intro (fun (_ : true = true) => ?_) (fun (h : true = false) => Bool.noConfusion h) | refine And.intro (fun (h : false = true) => Bool.noConfusion h) (fun (_ : false = false) => ?_)
      exact resB (by simp [h1])
    · refine Or.inr (And.intro (decide_eq_false h1) ?_)
      repeat first | refine And.intro rfl ?_ | refine Or.inl (And.intro rfl ?_) | refine Or.inr (And.intro rfl ?_) | refine And.intro (fun (_ : true = true) => ?_) (fun (h : true = false) => Bool.noConfusion h) | refine And.intro (fun (h : false = true) => Bool.noConfusion h) (fun (_ : false = false) => ?_)
      exact resB (by simp [h1])
  · cases h

def TAw2 : Table := (36, sLight3) :: TAw1
theorem TAw2_ok : TabOk TAw2 := TabOk.cons ok_Few TAw1_ok

def sShortP : List RV → Option (Prop × Res)
  | [.agg [.b (.val (.bool s0)), .b (.nat l0), .b (.nat t0), .b (.val (.bool z0)), .b (.nat k0), .b (.nat u0)], .one (.b (.val (.int .i64 n)))] => some (True, .r (.val (.bool (lightPR n ⟨s0, l0, t0, z0, k0, u0⟩))))
  | _ => none

theorem ok_Short : Ok1 15 sShortP := by
  refine ok_of TAw2_ok Tryz.func15 rfl (by kernel_rfl) ?_
  intro xs pre res h hp hlim
  unfold sShortP at h
  split at h
  · rename_i s0 l0 t0 z0 k0 u0 n
    cases h
    refine And.intro (Nat.le_of_ble_eq_true rfl) ?_
    repeat first | refine And.intro rfl ?_ | refine Or.inl (And.intro rfl ?_) | refine Or.inr (And.intro rfl ?_) | refine And.intro (fun (_ : true = true) => ?_) (fun (h : true = false) => Bool.noConfusion h) | refine And.intro (fun (h : false = true) => Bool.noConfusion h) (fun (_ : false = false) => ?_)
    repeat first | refine And.intro rfl ?_ | refine And.intro True.intro ?_ | refine Or.inl (And.intro rfl ?_) | refine Or.inr (And.intro rfl ?_) | refine And.intro (fun (_ : true = true) => ?_) (fun (h : true = false) => Bool.noConfusion h) | refine And.intro (fun (h : false = true) => Bool.noConfusion h) (fun (_ : false = false) => ?_)
    by_cases hs : (l0.length : Int) ≤ n ∧ (t0.length : Int) ≤ n
    · refine Or.inl (And.intro (decide_eq_true hs) ?_)
      repeat first | refine And.intro rfl ?_ | refine And.intro True.intro ?_ | refine Or.inl (And.intro rfl ?_) | refine Or.inr (And.intro rfl ?_) | refine And.intro (fun (_ : true = true) => ?_) (fun (h : true = false) => Bool.noConfusion h) | refine And.intro (fun (h : false = true) => Bool.noConfusion h) (fun (_ : false = false) => ?_)
      refine resB ?_
      show _ = (decide ((l0.length : Int) ≤ n ∧ (t0.length : Int) ≤ n) && decide ((k0.length : Int) ≤ n ∧ (u0.length : Int) ≤ n))
      rw [decide_eq_true hs]
      rfl
    · refine Or.inr (And.intro (decide_eq_false hs) ?_)
      repeat first | refine And.intro rfl ?_ | refine And.intro True.intro ?_ | refine Or.inl (And.intro rfl ?_) | refine Or.inr (And.intro rfl ?_) | refine And.intro (fun (_ : true = true) => ?_) (fun (h : true = false) => Bool.noConfusion h) | refine And.intro (fun (h : false = true) => Bool.noConfusion h) (fun (_ : false = false) => ?_)
      refine resB ?_
      show _ = (decide ((l0.length : Int) ≤ n ∧ (t0.length : Int) ≤ n) && decide ((k0.length : Int) ≤ n ∧ (u0.length : Int) ≤ n))
      rw [decide_eq_false hs]
      rfl
  · cases h

def TAw3 : Table := [(39, sRatOf)]
theorem TAw3_ok : TabOk TAw3 := TabOk.cons ok_kOf TabOk.nil

def sPart : List RV → Option (Prop × Res)
  | [.one (.b (.val (.int .i64 a))), .one (.b (.val (.int .i64 b)))] => some (InR a ∧ InR b ∧ b ≠ 0, .r (CQ (mkRat (sg (!(decide (a < 0) == decide (b < 0))) a.natAbs) b.natAbs)))
  | _ => none

theorem ok_part : Ok1 18 sPart := by
  refine ok_of TAw3_ok Tryz.func18 rfl (by kernel_rfl) ?_
  intro xs pre res h hp hlim
  unfold sPart at h
  split at h
  · rename_i a b
    cases h
    obtain ⟨⟨p1, p2⟩, ⟨p3, p4⟩, p5⟩ := hp
    refine And.intro (Nat.le_of_ble_eq_true rfl) ?_
    repeat first | refine And.intro rfl ?_ | refine Or.inl (And.intro rfl ?_) | refine Or.inr (And.intro rfl ?_) | refine And.intro (fun (_ : true = true) => ?_) (fun (h : true = false) => Bool.noConfusion h) | refine And.intro (fun (h : false = true) => Bool.noConfusion h) (fun (_ : false = false) => ?_)
    refine And.intro (show _ ∧ _ ∧ _ ∧ _ ∧ _ ∧ DivFit _ from ⟨p1, p2, p3, p4, p5, trivial⟩) ?_
    repeat first | refine And.intro rfl ?_ | refine Or.inl (And.intro rfl ?_) | refine Or.inr (And.intro rfl ?_) | refine And.intro (fun (_ : true = true) => ?_) (fun (h : true = false) => Bool.noConfusion h) | refine And.intro (fun (h : false = true) => Bool.noConfusion h) (fun (_ : false = false) => ?_)
    rfl
  · cases h

theorem mk_whole (n : Int) : mkRat (sg (!(decide (n < 0) == decide ((1 : Int) < 0))) n.natAbs) (1 : Int).natAbs = ((n : Int) : Rat) := by
  have e : decide ((1 : Int) < 0) = false := rfl
  have e2 : (!(decide (n < 0) == false)) = decide (n < 0) := by cases decide (n < 0) <;> rfl
  rw [e, e2, sg_self]
  show mkRat n 1 = _
  rw [Rat.mkRat_one]

theorem ok_whole8 : Ok1 35 sWholeR := by
  refine ok_of TAw3_ok Tryz.func35 rfl (by kernel_rfl) ?_
  intro xs pre res h hp hlim
  unfold sWholeR at h
  split at h
  · rename_i n
    cases h
    obtain ⟨p1, p2⟩ := hp
    refine And.intro (Nat.le_of_ble_eq_true rfl) ?_
    repeat first | refine And.intro rfl ?_ | refine Or.inl (And.intro rfl ?_) | refine Or.inr (And.intro rfl ?_) | refine And.intro (fun (_ : true = true) => ?_) (fun (h : true = false) => Bool.noConfusion h) | refine And.intro (fun (h : false = true) => Bool.noConfusion h) (fun (_ : false = false) => ?_)
    refine And.intro (show _ ∧ _ ∧ _ ∧ _ ∧ _ ∧ DivFit _ from ⟨p1, p2, by decide, by decide, by decide, trivial⟩) ?_
    rw [mk_whole]
    repeat first | refine And.intro rfl ?_ | refine Or.inl (And.intro rfl ?_) | refine Or.inr (And.intro rfl ?_) | refine And.intro (fun (_ : true = true) => ?_) (fun (h : true = false) => Bool.noConfusion h) | refine And.intro (fun (h : false = true) => Bool.noConfusion h) (fun (_ : false = false) => ?_)
    rfl
  · cases h

def TAw4 : Table := [(35, sWholeR)]
theorem TAw4_ok : TabOk TAw4 := TabOk.cons ok_whole8 TabOk.nil

theorem ok_Of8 : Ok1 19 sPtOf := by
  refine ok_of TAw4_ok Tryz.func19 rfl (by kernel_rfl) ?_
  intro xs pre res h hp hlim
  unfold sPtOf at h
  split at h
  · rename_i x y
    cases h
    obtain ⟨p1, p2⟩ := hp
    refine And.intro (Nat.le_of_ble_eq_true rfl) ?_
    repeat first | refine And.intro rfl ?_ | refine Or.inl (And.intro rfl ?_) | refine Or.inr (And.intro rfl ?_) | refine And.intro (fun (_ : true = true) => ?_) (fun (h : true = false) => Bool.noConfusion h) | refine And.intro (fun (h : false = true) => Bool.noConfusion h) (fun (_ : false = false) => ?_)
    refine And.intro p1 ?_
    repeat first | refine And.intro rfl ?_ | refine Or.inl (And.intro rfl ?_) | refine Or.inr (And.intro rfl ?_) | refine And.intro (fun (_ : true = true) => ?_) (fun (h : true = false) => Bool.noConfusion h) | refine And.intro (fun (h : false = true) => Bool.noConfusion h) (fun (_ : false = false) => ?_)
    refine And.intro p2 ?_
    repeat first | refine And.intro rfl ?_ | refine Or.inl (And.intro rfl ?_) | refine Or.inr (And.intro rfl ?_) | refine And.intro (fun (_ : true = true) => ?_) (fun (h : true = false) => Bool.noConfusion h) | refine And.intro (fun (h : false = true) => Bool.noConfusion h) (fun (_ : false = false) => ?_)
    rfl
  · cases h

end Go.Gm
