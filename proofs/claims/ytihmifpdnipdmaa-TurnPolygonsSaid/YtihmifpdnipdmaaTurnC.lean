/-
  The turns of the program, part C: lists. Plain theorems; no condition.
-/
import Derived.Test.YtihmifpdnipdmaaTurnB
set_option linter.all false
namespace Go.Gm
open Go.Proofs

def TT1 : Table := [(33, sCompose), (34, sCompose), (35, sInverse), (36, sInverse), (47, sAllowed), (48, sAllowed), (32, sApply)] ++ TT0
theorem TT1_ok : TabOk TT1 := TabOk.append (TabOk.cons ok_compose (TabOk.cons ok_refCompose (TabOk.cons ok_inverse (TabOk.cons ok_refInverse (TabOk.cons ok_allowed (TabOk.cons ok_refAllowed (TabOk.cons ok_refApply TabOk.nil))))))) TT0_ok

abbrev tnB (m : Bool) (q : Int) : List BV := [.val (.bool m), .val (.int .i64 q)]
/-- The allowed turns among the first k. -/
def allK (g : Int) (m : Bool) : Nat → List (List BV)
  | 0 => []
  | k + 1 => cond (alw g m m k) (allK g m k ++ [tnB m k]) (allK g m k)
theorem allK_len (g : Int) (m : Bool) : ∀ k, (allK g m k).length ≤ k
  | 0 => Nat.le_refl _
  | k + 1 => by
    have := allK_len g m k
    unfold allK
    cases alw g m m k <;> simp <;> omega

def sAll : List RV → Option (Prop × Res)
  | [.one (.b (.val (.int .i64 g))), .one (.b (.val (.bool m)))] => some (True, .r (.one (.sl 2 (allK g m 4))))
  | _ => none

theorem avSl {n : Nat} {l l' : List (List BV)} (h : l = l') : AV.one (.sl n l) = AV.one (.sl n l') := by rw [h]
theorem rwS {e : TypeId} {n : Nat} {l l' : List (List BV)} (h : l = l') : Rw.s e n l = Rw.s e n l' := by rw [h]


theorem ok_all : Ok1 45 sAll := by
  refine ok_of TT1_ok Try.func45 rfl (by kernel_rfl) ?_
  intro xs pre res h hp hlim
  unfold sAll at h
  split at h
  · rename_i g m
    cases h
    refine And.intro (Nat.le_of_ble_eq_true rfl) ?_
    repeat first | refine And.intro rfl ?_ | refine Or.inl (And.intro rfl ?_) | refine Or.inr (And.intro rfl ?_) | refine And.intro (fun (_ : true = true) => ?_) (fun (h : true = false) => Bool.noConfusion h) | refine And.intro (fun (h : false = true) => Bool.noConfusion h) (fun (_ : false = false) => ?_)
    refine Exists.intro {k : Nat // k ≤ 4} (Exists.intro (fun k => ⟨[(0, .val (.int .i64 g)), (1, .val (.bool m)), (5, .own 0), (8, .val (.int .i64 (k.1 : Nat)))], ⟨[], [.s 23 2 (allK g m k.1)]⟩⟩) (Exists.intro (fun k => 4 - k.1) (Exists.intro ⟨0, by decide⟩ (And.intro ?_ ?_))))
    · repeat first | exact trivial | refine And.intro rfl ?_ | refine And.intro trivial ?_ | refine And.intro (And.intro rfl trivial) ?_ | refine And.intro (And.intro rfl (And.intro rfl trivial)) ?_
    · rintro ⟨k, hk⟩
      have hl := allK_len g m k
      repeat first | refine And.intro rfl ?_ | refine Or.inl (And.intro rfl ?_) | refine Or.inr (And.intro rfl ?_) | refine And.intro (fun (_ : true = true) => ?_) (fun (h : true = false) => Bool.noConfusion h) | refine And.intro (fun (h : false = true) => Bool.noConfusion h) (fun (_ : false = false) => ?_)
      refine And.intro (fun hc => ?_) (fun hc => ?_)
      · have hk' : (k : Int) < 4 := of_decide_eq_true hc
        repeat first | refine And.intro rfl ?_ | refine Or.inl (And.intro rfl ?_) | refine Or.inr (And.intro rfl ?_) | refine And.intro (fun (_ : true = true) => ?_) (fun (h : true = false) => Bool.noConfusion h) | refine And.intro (fun (h : false = true) => Bool.noConfusion h) (fun (_ : false = false) => ?_)
        refine And.intro trivial ?_
        repeat first | refine And.intro rfl ?_ | refine Or.inl (And.intro rfl ?_) | refine Or.inr (And.intro rfl ?_) | refine And.intro (fun (_ : true = true) => ?_) (fun (h : true = false) => Bool.noConfusion h) | refine And.intro (fun (h : false = true) => Bool.noConfusion h) (fun (_ : false = false) => ?_)
        refine And.intro (fun ha => ?_) (fun ha => ?_)
        · repeat first | refine And.intro rfl ?_ | refine Or.inl (And.intro rfl ?_) | refine Or.inr (And.intro rfl ?_) | refine And.intro (fun (_ : true = true) => ?_) (fun (h : true = false) => Bool.noConfusion h) | refine And.intro (fun (h : false = true) => Bool.noConfusion h) (fun (_ : false = false) => ?_)
          refine And.intro trivial ?_
          repeat first | refine And.intro rfl ?_ | refine Or.inl (And.intro rfl ?_) | refine Or.inr (And.intro rfl ?_) | refine And.intro (fun (_ : true = true) => ?_) (fun (h : true = false) => Bool.noConfusion h) | refine And.intro (fun (h : false = true) => Bool.noConfusion h) (fun (_ : false = false) => ?_)
          refine And.intro (show (allK g m k).length + 1 ≤ 1000000 by omega) ?_
          repeat first | refine And.intro rfl ?_ | refine Or.inl (And.intro rfl ?_) | refine Or.inr (And.intro rfl ?_) | refine And.intro (fun (_ : true = true) => ?_) (fun (h : true = false) => Bool.noConfusion h) | refine And.intro (fun (h : false = true) => Bool.noConfusion h) (fun (_ : false = false) => ?_)
          refine Exists.intro ⟨k + 1, by omega⟩ (And.intro (show 4 - (k + 1) < 4 - k by omega) ?_)
          repeat first | exact trivial | refine And.intro rfl ?_ | refine And.intro trivial ?_ | refine And.intro (And.intro rfl trivial) ?_ | refine And.intro (And.intro rfl (And.intro rfl trivial)) ?_
          refine And.intro (And.intro (rwS (show allK g m k ++ [tnB m k] = allK g m (k + 1) by rw [allK, ha]; rfl)) trivial) ?_
          repeat first | exact trivial | refine And.intro rfl ?_ | refine And.intro trivial ?_ | refine And.intro (And.intro rfl trivial) ?_ | refine And.intro (And.intro rfl (And.intro rfl trivial)) ?_
          exact And.intro (avI (show IntKind.i64.wrap ((k : Int) + 1) = ((k + 1 : Nat) : Int) by rw [wI (by omega) (by omega)]; omega)) trivial
        · repeat first | refine And.intro rfl ?_ | refine Or.inl (And.intro rfl ?_) | refine Or.inr (And.intro rfl ?_) | refine And.intro (fun (_ : true = true) => ?_) (fun (h : true = false) => Bool.noConfusion h) | refine And.intro (fun (h : false = true) => Bool.noConfusion h) (fun (_ : false = false) => ?_)
          refine Exists.intro ⟨k + 1, by omega⟩ (And.intro (show 4 - (k + 1) < 4 - k by omega) ?_)
          repeat first | exact trivial | refine And.intro rfl ?_ | refine And.intro trivial ?_ | refine And.intro (And.intro rfl trivial) ?_ | refine And.intro (And.intro rfl (And.intro rfl trivial)) ?_
          refine And.intro (And.intro (rwS (show allK g m k = allK g m (k + 1) by rw [allK, ha]; rfl)) trivial) ?_
          repeat first | exact trivial | refine And.intro rfl ?_ | refine And.intro trivial ?_ | refine And.intro (And.intro rfl trivial) ?_ | refine And.intro (And.intro rfl (And.intro rfl trivial)) ?_
          exact And.intro (avI (show IntKind.i64.wrap ((k : Int) + 1) = ((k + 1 : Nat) : Int) by rw [wI (by omega) (by omega)]; omega)) trivial
      · have hk' : ¬ (k : Int) < 4 := of_decide_eq_false hc
        have hk2 : k = 4 := by omega
        subst hk2
        repeat first | refine And.intro rfl ?_ | refine Or.inl (And.intro rfl ?_) | refine Or.inr (And.intro rfl ?_) | refine And.intro (fun (_ : true = true) => ?_) (fun (h : true = false) => Bool.noConfusion h) | refine And.intro (fun (h : false = true) => Bool.noConfusion h) (fun (_ : false = false) => ?_)
        rfl
  · cases h

theorem ok_refAll : Ok1 46 sAll := by
  refine ok_of TT1_ok Try.func46 rfl (by kernel_rfl) ?_
  intro xs pre res h hp hlim
  unfold sAll at h
  split at h
  · rename_i g m
    cases h
    refine And.intro (Nat.le_of_ble_eq_true rfl) ?_
    repeat first | refine And.intro rfl ?_ | refine Or.inl (And.intro rfl ?_) | refine Or.inr (And.intro rfl ?_) | refine And.intro (fun (_ : true = true) => ?_) (fun (h : true = false) => Bool.noConfusion h) | refine And.intro (fun (h : false = true) => Bool.noConfusion h) (fun (_ : false = false) => ?_)
    refine Exists.intro {k : Nat // k ≤ 4} (Exists.intro (fun k => ⟨[(0, .val (.int .i64 g)), (1, .val (.bool m)), (5, .own 0), (6, .val (.int .i64 (k.1 : Nat)))], ⟨[], [.s 23 2 (allK g m k.1)]⟩⟩) (Exists.intro (fun k => 4 - k.1) (Exists.intro ⟨0, by decide⟩ (And.intro ?_ ?_))))
    · repeat first | exact trivial | refine And.intro rfl ?_ | refine And.intro trivial ?_ | refine And.intro (And.intro rfl trivial) ?_ | refine And.intro (And.intro rfl (And.intro rfl trivial)) ?_
    · rintro ⟨k, hk⟩
      have hl := allK_len g m k
      repeat first | refine And.intro rfl ?_ | refine Or.inl (And.intro rfl ?_) | refine Or.inr (And.intro rfl ?_) | refine And.intro (fun (_ : true = true) => ?_) (fun (h : true = false) => Bool.noConfusion h) | refine And.intro (fun (h : false = true) => Bool.noConfusion h) (fun (_ : false = false) => ?_)
      refine And.intro (fun hc => ?_) (fun hc => ?_)
      · have hk' : (k : Int) < 4 := of_decide_eq_true hc
        repeat first | refine And.intro rfl ?_ | refine Or.inl (And.intro rfl ?_) | refine Or.inr (And.intro rfl ?_) | refine And.intro (fun (_ : true = true) => ?_) (fun (h : true = false) => Bool.noConfusion h) | refine And.intro (fun (h : false = true) => Bool.noConfusion h) (fun (_ : false = false) => ?_)
        refine And.intro trivial ?_
        repeat first | refine And.intro rfl ?_ | refine Or.inl (And.intro rfl ?_) | refine Or.inr (And.intro rfl ?_) | refine And.intro (fun (_ : true = true) => ?_) (fun (h : true = false) => Bool.noConfusion h) | refine And.intro (fun (h : false = true) => Bool.noConfusion h) (fun (_ : false = false) => ?_)
        refine And.intro (fun ha => ?_) (fun ha => ?_)
        · repeat first | refine And.intro rfl ?_ | refine Or.inl (And.intro rfl ?_) | refine Or.inr (And.intro rfl ?_) | refine And.intro (fun (_ : true = true) => ?_) (fun (h : true = false) => Bool.noConfusion h) | refine And.intro (fun (h : false = true) => Bool.noConfusion h) (fun (_ : false = false) => ?_)
          refine And.intro trivial ?_
          repeat first | refine And.intro rfl ?_ | refine Or.inl (And.intro rfl ?_) | refine Or.inr (And.intro rfl ?_) | refine And.intro (fun (_ : true = true) => ?_) (fun (h : true = false) => Bool.noConfusion h) | refine And.intro (fun (h : false = true) => Bool.noConfusion h) (fun (_ : false = false) => ?_)
          refine And.intro (show (allK g m k).length + 1 ≤ 1000000 by omega) ?_
          repeat first | refine And.intro rfl ?_ | refine Or.inl (And.intro rfl ?_) | refine Or.inr (And.intro rfl ?_) | refine And.intro (fun (_ : true = true) => ?_) (fun (h : true = false) => Bool.noConfusion h) | refine And.intro (fun (h : false = true) => Bool.noConfusion h) (fun (_ : false = false) => ?_)
          refine Exists.intro ⟨k + 1, by omega⟩ (And.intro (show 4 - (k + 1) < 4 - k by omega) ?_)
          repeat first | exact trivial | refine And.intro rfl ?_ | refine And.intro trivial ?_ | refine And.intro (And.intro rfl trivial) ?_ | refine And.intro (And.intro rfl (And.intro rfl trivial)) ?_
          refine And.intro (And.intro (rwS (show allK g m k ++ [tnB m k] = allK g m (k + 1) by rw [allK, ha]; rfl)) trivial) ?_
          repeat first | exact trivial | refine And.intro rfl ?_ | refine And.intro trivial ?_ | refine And.intro (And.intro rfl trivial) ?_ | refine And.intro (And.intro rfl (And.intro rfl trivial)) ?_
          exact And.intro (avI (show IntKind.i64.wrap ((k : Int) + 1) = ((k + 1 : Nat) : Int) by rw [wI (by omega) (by omega)]; omega)) trivial
        · repeat first | refine And.intro rfl ?_ | refine Or.inl (And.intro rfl ?_) | refine Or.inr (And.intro rfl ?_) | refine And.intro (fun (_ : true = true) => ?_) (fun (h : true = false) => Bool.noConfusion h) | refine And.intro (fun (h : false = true) => Bool.noConfusion h) (fun (_ : false = false) => ?_)
          refine Exists.intro ⟨k + 1, by omega⟩ (And.intro (show 4 - (k + 1) < 4 - k by omega) ?_)
          repeat first | exact trivial | refine And.intro rfl ?_ | refine And.intro trivial ?_ | refine And.intro (And.intro rfl trivial) ?_ | refine And.intro (And.intro rfl (And.intro rfl trivial)) ?_
          refine And.intro (And.intro (rwS (show allK g m k = allK g m (k + 1) by rw [allK, ha]; rfl)) trivial) ?_
          repeat first | exact trivial | refine And.intro rfl ?_ | refine And.intro trivial ?_ | refine And.intro (And.intro rfl trivial) ?_ | refine And.intro (And.intro rfl (And.intro rfl trivial)) ?_
          exact And.intro (avI (show IntKind.i64.wrap ((k : Int) + 1) = ((k + 1 : Nat) : Int) by rw [wI (by omega) (by omega)]; omega)) trivial
      · have hk' : ¬ (k : Int) < 4 := of_decide_eq_false hc
        have hk2 : k = 4 := by omega
        subst hk2
        repeat first | refine And.intro rfl ?_ | refine Or.inl (And.intro rfl ?_) | refine Or.inr (And.intro rfl ?_) | refine And.intro (fun (_ : true = true) => ?_) (fun (h : true = false) => Bool.noConfusion h) | refine And.intro (fun (h : false = true) => Bool.noConfusion h) (fun (_ : false = false) => ?_)
        rfl
  · cases h

/-! Lists of spots. -/

abbrev spB (p : Int × Int) : List BV := [.val (.int .i64 p.1), .val (.int .i64 p.2)]
def spOf : List BV → Int × Int
  | [.val (.int .i64 x), .val (.int .i64 y)] => (x, y)
  | _ => (0, 0)
def spots (l : List (List BV)) : List (Int × Int) := l.map spOf
def IsSp (l : List (List BV)) : Prop := l = (spots l).map spB

theorem spots_map (ps : List (Int × Int)) : spots (ps.map spB) = ps := by
  unfold spots
  rw [List.map_map]
  conv => rhs; rw [← List.map_id ps]
  apply List.map_congr_left
  intro p _
  rfl
theorem isSp_map (ps : List (Int × Int)) : IsSp (ps.map spB) := by unfold IsSp; rw [spots_map]
theorem getD_sp (ps : List (Int × Int)) (i : Nat) (hi : i < ps.length) : (ps.map spB).getD i [] = spB (ps.getD i (0, 0)) := by
  simp [List.getD_eq_getElem?_getD, hi]

def sSameSpots : List RV → Option (Prop × Res)
  | [.one (.sl 2 l), .one (.sl 2 l')] => some (IsSp l ∧ IsSp l' ∧ l.length ≤ 100000 ∧ l'.length ≤ 100000, .r (.val (.bool (decide (spots l = spots l')))))
  | _ => none

theorem getD_ext {α : Type} {a b : List α} {d : α} (hl : a.length = b.length) (h : ∀ i, i < a.length → a.getD i d = b.getD i d) : a = b := by
  apply List.ext_getElem?
  intro i
  rcases Nat.lt_or_ge i a.length with hi | hi
  · have := h i hi
    rw [List.getD_eq_getElem?_getD, List.getD_eq_getElem?_getD, List.getElem?_eq_getElem hi, List.getElem?_eq_getElem (show i < b.length by omega)] at this
    rw [List.getElem?_eq_getElem hi, List.getElem?_eq_getElem (show i < b.length by omega)]
    simpa using this
  · rw [List.getElem?_eq_none hi, List.getElem?_eq_none (by omega)]

set_option maxHeartbeats 1000000 in
theorem ok_sameSpots : Ok1 42 sSameSpots := by
  refine ok_of TN0_ok Try.func42 rfl (by kernel_rfl) ?_
  intro xs pre res h hp hlim
  unfold sSameSpots at h
  split at h
  · rename_i l l'
    cases h
    obtain ⟨h1, h2, h3, h4⟩ := hp
    obtain ⟨ps, hps⟩ : ∃ ps, ps = spots l := ⟨_, rfl⟩
    obtain ⟨qs, hqs⟩ : ∃ qs, qs = spots l' := ⟨_, rfl⟩
    unfold IsSp at h1 h2
    rw [← hps] at h1 ⊢
    rw [← hqs] at h2 ⊢
    have e1 : l.length = ps.length := by rw [h1, List.length_map]
    have e2 : l'.length = qs.length := by rw [h2, List.length_map]
    subst h1
    subst h2
    refine And.intro (Nat.le_of_ble_eq_true rfl) ?_
    repeat first | refine And.intro rfl ?_ | refine Or.inl (And.intro rfl ?_) | refine Or.inr (And.intro rfl ?_) | refine And.intro (fun (_ : true = true) => ?_) (fun (h : true = false) => Bool.noConfusion h) | refine And.intro (fun (h : false = true) => Bool.noConfusion h) (fun (_ : false = false) => ?_)
    refine And.intro (fun hc => ?_) (fun hc => ?_)
    · have hne : ps.length ≠ qs.length := by
        intro h
        simp [h] at hc
      repeat first | refine And.intro rfl ?_ | refine Or.inl (And.intro rfl ?_) | refine Or.inr (And.intro rfl ?_) | refine And.intro (fun (_ : true = true) => ?_) (fun (h : true = false) => Bool.noConfusion h) | refine And.intro (fun (h : false = true) => Bool.noConfusion h) (fun (_ : false = false) => ?_)
      exact resB (decide_eq_false (fun h => hne (by rw [h]))).symm
    · have heq : ps.length = qs.length := by
        have : ((ps.map spB).length : Int) = (qs.map spB).length := by simpa using hc
        simp at this
        omega
      repeat first | refine And.intro rfl ?_ | refine Or.inl (And.intro rfl ?_) | refine Or.inr (And.intro rfl ?_) | refine And.intro (fun (_ : true = true) => ?_) (fun (h : true = false) => Bool.noConfusion h) | refine And.intro (fun (h : false = true) => Bool.noConfusion h) (fun (_ : false = false) => ?_)
      refine Exists.intro {k : Nat // k ≤ ps.length ∧ ∀ i, i < k → ps.getD i (0, 0) = qs.getD i (0, 0)} (Exists.intro (fun k => ⟨[(0, .one (.sl 2 (ps.map spB))), (1, .one (.sl 2 (qs.map spB))), (5, .val (.int .i64 (k.1 : Nat)))], ⟨[], []⟩⟩) (Exists.intro (fun k => ps.length - k.1) (Exists.intro ⟨0, by omega, fun i hi => by omega⟩ (And.intro ?_ ?_))))
      · repeat first | exact trivial | refine And.intro rfl ?_ | refine And.intro trivial ?_ | refine And.intro (And.intro rfl trivial) ?_ | refine And.intro (And.intro rfl (And.intro rfl trivial)) ?_
      · rintro ⟨k, hk1, hk2⟩
        repeat first | refine And.intro rfl ?_ | refine Or.inl (And.intro rfl ?_) | refine Or.inr (And.intro rfl ?_) | refine And.intro (fun (_ : true = true) => ?_) (fun (h : true = false) => Bool.noConfusion h) | refine And.intro (fun (h : false = true) => Bool.noConfusion h) (fun (_ : false = false) => ?_)
        refine And.intro (fun hc => ?_) (fun hc => ?_)
        · have hk' : (k : Int) < (ps.map spB).length := of_decide_eq_true hc
          have hkl : k < ps.length := by rw [List.length_map] at hk'; omega
          have g1 : (ps.map spB).getD (k : Int).toNat [] = spB (ps.getD k (0, 0)) := getD_sp ps k hkl
          have g2 : (qs.map spB).getD (k : Int).toNat [] = spB (qs.getD k (0, 0)) := getD_sp qs k (by omega)
          repeat first | refine And.intro rfl ?_ | refine Or.inl (And.intro rfl ?_) | refine Or.inr (And.intro rfl ?_) | refine And.intro (fun (_ : true = true) => ?_) (fun (h : true = false) => Bool.noConfusion h) | refine And.intro (fun (h : false = true) => Bool.noConfusion h) (fun (_ : false = false) => ?_)
          refine And.intro (show 0 ≤ (k : Int) ∧ (k : Int) < (ps.map spB).length by omega) ?_
          rw [g1]
          repeat first | refine And.intro rfl ?_ | refine Or.inl (And.intro rfl ?_) | refine Or.inr (And.intro rfl ?_) | refine And.intro (fun (_ : true = true) => ?_) (fun (h : true = false) => Bool.noConfusion h) | refine And.intro (fun (h : false = true) => Bool.noConfusion h) (fun (_ : false = false) => ?_)
          refine And.intro (show 0 ≤ (k : Int) ∧ (k : Int) < (qs.map spB).length by rw [List.length_map]; omega) ?_
          rw [g2]
          repeat first | refine And.intro rfl ?_ | refine Or.inl (And.intro rfl ?_) | refine Or.inr (And.intro rfl ?_) | refine And.intro (fun (_ : true = true) => ?_) (fun (h : true = false) => Bool.noConfusion h) | refine And.intro (fun (h : false = true) => Bool.noConfusion h) (fun (_ : false = false) => ?_)
          refine And.intro (fun hd => ?_) (fun hd => ?_)
          · have hne : ps.getD k (0, 0) ≠ qs.getD k (0, 0) := by
              intro h
              have hd' : (!((ps.getD k (0, 0)).1 == (qs.getD k (0, 0)).1 && (ps.getD k (0, 0)).2 == (qs.getD k (0, 0)).2)) = true := hd
              rw [h] at hd'
              simp at hd'
            repeat first | refine And.intro rfl ?_ | refine Or.inl (And.intro rfl ?_) | refine Or.inr (And.intro rfl ?_) | refine And.intro (fun (_ : true = true) => ?_) (fun (h : true = false) => Bool.noConfusion h) | refine And.intro (fun (h : false = true) => Bool.noConfusion h) (fun (_ : false = false) => ?_)
            exact resB (decide_eq_false (fun h => hne (by rw [h]))).symm
          · have heq' : ps.getD k (0, 0) = qs.getD k (0, 0) := by
              have hd' : (!((ps.getD k (0, 0)).1 == (qs.getD k (0, 0)).1 && (ps.getD k (0, 0)).2 == (qs.getD k (0, 0)).2)) = false := hd
              simp only [Bool.not_eq_false', Bool.and_eq_true, beq_iff_eq] at hd'
              exact Prod.ext hd'.1 hd'.2
            repeat first | refine And.intro rfl ?_ | refine Or.inl (And.intro rfl ?_) | refine Or.inr (And.intro rfl ?_) | refine And.intro (fun (_ : true = true) => ?_) (fun (h : true = false) => Bool.noConfusion h) | refine And.intro (fun (h : false = true) => Bool.noConfusion h) (fun (_ : false = false) => ?_)
            refine Exists.intro ⟨k + 1, by omega, fun i hi => ?_⟩ (And.intro (show ps.length - (k + 1) < ps.length - k by omega) ?_)
            · rcases Nat.lt_or_ge i k with h | h
              · exact hk2 i h
              · have : i = k := by omega
                subst this
                exact heq'
            · repeat first | exact trivial | refine And.intro rfl ?_ | refine And.intro trivial ?_ | refine And.intro (And.intro rfl trivial) ?_ | refine And.intro (And.intro rfl (And.intro rfl trivial)) ?_
              exact And.intro (avI (show IntKind.i64.wrap ((k : Int) + 1) = ((k + 1 : Nat) : Int) by rw [wI (by omega) (by omega)]; omega)) trivial
        · have hk' : ¬ (k : Int) < (ps.map spB).length := of_decide_eq_false hc
          rw [List.length_map] at hk'
          repeat first | refine And.intro rfl ?_ | refine Or.inl (And.intro rfl ?_) | refine Or.inr (And.intro rfl ?_) | refine And.intro (fun (_ : true = true) => ?_) (fun (h : true = false) => Bool.noConfusion h) | refine And.intro (fun (h : false = true) => Bool.noConfusion h) (fun (_ : false = false) => ?_)
          exact resB (decide_eq_true (getD_ext heq (fun i hi => hk2 i (by omega)))).symm
  · cases h

/-! Turned lists. -/

def polyL (f : Bool) (q : Int) (ps : List (Int × Int)) : List (Int × Int) := cond f (ps.map (apZ f q)).reverse (ps.map (apZ f q))
theorem polyL_len (f : Bool) (q : Int) (ps : List (Int × Int)) : (polyL f q ps).length = ps.length := by cases f <;> simp [polyL]

def sPoly : List RV → Option (Prop × Res)
  | [.agg [.b (.val (.bool f)), .b (.val (.int .i64 q))], .one (.sl 2 l)] => some (IsSp l ∧ l.length ≤ 100000, .r (.one (.sl 2 ((polyL f q (spots l)).map spB))))
  | _ => none

/-- A list that is filled from the left. -/
theorem set_left {α : Type} (out : List α) (z v : α) (m k : Nat) (hk : out.length = k) (hm : 0 < m) : (out ++ List.replicate m z).set k v = (out ++ [v]) ++ List.replicate (m - 1) z := by
  obtain ⟨n, rfl⟩ : ∃ n, m = n + 1 := ⟨m - 1, by omega⟩
  rw [List.set_append_right _ _ (by omega), hk, Nat.sub_self, List.replicate_succ, List.set_cons_zero]
  simp
theorem set_right {α : Type} (out : List α) (z v : α) (m : Nat) (hm : 0 < m) : (List.replicate m z ++ out).set (m - 1) v = List.replicate (m - 1) z ++ (v :: out) := by
  obtain ⟨n, rfl⟩ : ∃ n, m = n + 1 := ⟨m - 1, by omega⟩
  rw [List.replicate_succ', List.append_assoc, List.set_append_right _ _ (by simp)]
  simp

theorem take_succ_map {α β : Type} (g : α → β) (l : List α) (d : α) (k : Nat) (hk : k < l.length) : (l.take (k + 1)).map g = (l.take k).map g ++ [g (l.getD k d)] := by
  rw [List.take_succ_eq_append_getElem hk, List.map_append, List.getD_eq_getElem?_getD, List.getElem?_eq_getElem hk]
  rfl

abbrev zSp : List BV := [.val (.int .i64 0), .val (.int .i64 0)]

set_option maxHeartbeats 1000000 in
theorem ok_poly : Ok1 43 sPoly := by
  refine ok_of TT1_ok Try.func43 rfl (by kernel_rfl) ?_
  intro xs pre res h hp hlim
  unfold sPoly at h
  split at h
  · rename_i f q l
    cases h
    obtain ⟨h1, h3⟩ := hp
    obtain ⟨ps, hps⟩ : ∃ ps, ps = spots l := ⟨_, rfl⟩
    unfold IsSp at h1
    rw [← hps] at h1 ⊢
    have e1 : l.length = ps.length := by rw [h1, List.length_map]
    subst h1
    cases f
    · refine And.intro (Nat.le_of_ble_eq_true rfl) ?_
      repeat first | refine And.intro rfl ?_ | refine Or.inl (And.intro rfl ?_) | refine Or.inr (And.intro rfl ?_) | refine And.intro (fun (_ : true = true) => ?_) (fun (h : true = false) => Bool.noConfusion h) | refine And.intro (fun (h : false = true) => Bool.noConfusion h) (fun (_ : false = false) => ?_)
      refine And.intro (show 0 ≤ ((ps.map spB).length : Int) ∧ ((ps.map spB).length : Int) ≤ (ps.map spB).length ∧ ((ps.map spB).length : Int) ≤ 1000000 by omega) ?_
      repeat first | refine And.intro rfl ?_ | refine Or.inl (And.intro rfl ?_) | refine Or.inr (And.intro rfl ?_) | refine And.intro (fun (_ : true = true) => ?_) (fun (h : true = false) => Bool.noConfusion h) | refine And.intro (fun (h : false = true) => Bool.noConfusion h) (fun (_ : false = false) => ?_)
      refine Exists.intro {k : Nat // k ≤ ps.length} (Exists.intro (fun k => ⟨[(1, .one (.sl 2 (ps.map spB))), (2, .ptr 0 0), (5, .own 0), (11, .one (.sl 2 (ps.map spB))), (12, .val (.int .i64 (ps.map spB).length)), (13, .val (.int .i64 (k.1 : Nat)))], ⟨[(23, [.val (.bool false), .val (.int .i64 q)])], [.s 25 2 (((ps.take k.1).map (apZ false q)).map spB ++ List.replicate (ps.length - k.1) zSp)]⟩⟩) (Exists.intro (fun k => ps.length - k.1) (Exists.intro ⟨0, by omega⟩ (And.intro ?_ ?_))))
      · repeat first | exact trivial | refine And.intro rfl ?_ | refine And.intro trivial ?_ | refine And.intro (And.intro rfl trivial) ?_ | refine And.intro (And.intro rfl (And.intro rfl trivial)) ?_
        refine And.intro (And.intro (rwS ?_) trivial) ?_
        · show List.replicate ((ps.map spB).length : Int).toNat zSp = _
          simp
        · repeat first | exact trivial | refine And.intro rfl ?_ | refine And.intro trivial ?_ | refine And.intro (And.intro rfl trivial) ?_ | refine And.intro (And.intro rfl (And.intro rfl trivial)) ?_
      · rintro ⟨k, hk⟩
        repeat first | refine And.intro rfl ?_ | refine Or.inl (And.intro rfl ?_) | refine Or.inr (And.intro rfl ?_) | refine And.intro (fun (_ : true = true) => ?_) (fun (h : true = false) => Bool.noConfusion h) | refine And.intro (fun (h : false = true) => Bool.noConfusion h) (fun (_ : false = false) => ?_)
        refine And.intro (fun hc => ?_) (fun hc => ?_)
        · have hk' : (k : Int) < (ps.map spB).length := of_decide_eq_true hc
          have hkl : k < ps.length := by rw [List.length_map] at hk'; omega
          have g1 : (ps.map spB).getD (k : Int).toNat [] = spB (ps.getD k (0, 0)) := getD_sp ps k hkl
          have hrow : (((ps.take k).map (apZ false q)).map spB ++ List.replicate (ps.length - k) zSp).length = ps.length := by simp; omega
          repeat first | refine And.intro rfl ?_ | refine Or.inl (And.intro rfl ?_) | refine Or.inr (And.intro rfl ?_) | refine And.intro (fun (_ : true = true) => ?_) (fun (h : true = false) => Bool.noConfusion h) | refine And.intro (fun (h : false = true) => Bool.noConfusion h) (fun (_ : false = false) => ?_)
          refine And.intro (show 0 ≤ (k : Int) ∧ (k : Int) < (ps.map spB).length by omega) ?_
          rw [g1]
          repeat first | refine And.intro rfl ?_ | refine Or.inl (And.intro rfl ?_) | refine Or.inr (And.intro rfl ?_) | refine And.intro (fun (_ : true = true) => ?_) (fun (h : true = false) => Bool.noConfusion h) | refine And.intro (fun (h : false = true) => Bool.noConfusion h) (fun (_ : false = false) => ?_)
          refine And.intro trivial ?_
          repeat first | refine And.intro rfl ?_ | refine Or.inl (And.intro rfl ?_) | refine Or.inr (And.intro rfl ?_) | refine And.intro (fun (_ : true = true) => ?_) (fun (h : true = false) => Bool.noConfusion h) | refine And.intro (fun (h : false = true) => Bool.noConfusion h) (fun (_ : false = false) => ?_)
          refine And.intro (show 0 ≤ (k : Int) ∧ (k : Int) < (((ps.take k).map (apZ false q)).map spB ++ List.replicate (ps.length - k) zSp).length by rw [hrow]; omega) ?_
          repeat first | refine And.intro rfl ?_ | refine Or.inl (And.intro rfl ?_) | refine Or.inr (And.intro rfl ?_) | refine And.intro (fun (_ : true = true) => ?_) (fun (h : true = false) => Bool.noConfusion h) | refine And.intro (fun (h : false = true) => Bool.noConfusion h) (fun (_ : false = false) => ?_)
          refine And.intro (show (k : Int).toNat < (((ps.take k).map (apZ false q)).map spB ++ List.replicate (ps.length - k) zSp).length by rw [hrow]; omega) ?_
          repeat first | refine And.intro rfl ?_ | refine Or.inl (And.intro rfl ?_) | refine Or.inr (And.intro rfl ?_) | refine And.intro (fun (_ : true = true) => ?_) (fun (h : true = false) => Bool.noConfusion h) | refine And.intro (fun (h : false = true) => Bool.noConfusion h) (fun (_ : false = false) => ?_)
          refine Exists.intro ⟨k + 1, by omega⟩ (And.intro (show ps.length - (k + 1) < ps.length - k by omega) ?_)
          repeat first | exact trivial | refine And.intro rfl ?_ | refine And.intro trivial ?_ | refine And.intro (And.intro rfl trivial) ?_ | refine And.intro (And.intro rfl (And.intro rfl trivial)) ?_
          refine And.intro (And.intro (rwS ?_) trivial) ?_
          · show (((ps.take k).map (apZ false q)).map spB ++ List.replicate (ps.length - k) zSp).set (k : Int).toNat (spB (apZ false q (ps.getD k (0, 0)))) = _
            rw [Int.toNat_natCast, set_left _ _ _ _ _ (by simp; omega) (by omega), take_succ_map (apZ false q) ps (0, 0) k hkl, List.map_append]
            rfl
          · repeat first | exact trivial | refine And.intro rfl ?_ | refine And.intro trivial ?_ | refine And.intro (And.intro rfl trivial) ?_ | refine And.intro (And.intro rfl (And.intro rfl trivial)) ?_
            exact And.intro (avI (show IntKind.i64.wrap ((k : Int) + 1) = ((k + 1 : Nat) : Int) by rw [wI (by omega) (by omega)]; omega)) trivial
        · have hk' : ¬ (k : Int) < (ps.map spB).length := of_decide_eq_false hc
          rw [List.length_map] at hk'
          repeat first | refine And.intro rfl ?_ | refine Or.inl (And.intro rfl ?_) | refine Or.inr (And.intro rfl ?_) | refine And.intro (fun (_ : true = true) => ?_) (fun (h : true = false) => Bool.noConfusion h) | refine And.intro (fun (h : false = true) => Bool.noConfusion h) (fun (_ : false = false) => ?_)
          refine resSl ?_
          show ((ps.take k).map (apZ false q)).map spB ++ List.replicate (ps.length - k) zSp = (ps.map (apZ false q)).map spB
          rw [List.take_of_length_le (by omega), show ps.length - k = 0 by omega]
          simp
    · refine And.intro (Nat.le_of_ble_eq_true rfl) ?_
      repeat first | refine And.intro rfl ?_ | refine Or.inl (And.intro rfl ?_) | refine Or.inr (And.intro rfl ?_) | refine And.intro (fun (_ : true = true) => ?_) (fun (h : true = false) => Bool.noConfusion h) | refine And.intro (fun (h : false = true) => Bool.noConfusion h) (fun (_ : false = false) => ?_)
      refine And.intro (show 0 ≤ ((ps.map spB).length : Int) ∧ ((ps.map spB).length : Int) ≤ (ps.map spB).length ∧ ((ps.map spB).length : Int) ≤ 1000000 by omega) ?_
      repeat first | refine And.intro rfl ?_ | refine Or.inl (And.intro rfl ?_) | refine Or.inr (And.intro rfl ?_) | refine And.intro (fun (_ : true = true) => ?_) (fun (h : true = false) => Bool.noConfusion h) | refine And.intro (fun (h : false = true) => Bool.noConfusion h) (fun (_ : false = false) => ?_)
      refine Exists.intro {k : Nat // k ≤ ps.length} (Exists.intro (fun k => ⟨[(1, .one (.sl 2 (ps.map spB))), (2, .ptr 0 0), (5, .own 0), (11, .one (.sl 2 (ps.map spB))), (12, .val (.int .i64 (ps.map spB).length)), (13, .val (.int .i64 (k.1 : Nat)))], ⟨[(23, [.val (.bool true), .val (.int .i64 q)])], [.s 25 2 (List.replicate (ps.length - k.1) zSp ++ (((ps.take k.1).map (apZ true q)).reverse).map spB)]⟩⟩) (Exists.intro (fun k => ps.length - k.1) (Exists.intro ⟨0, by omega⟩ (And.intro ?_ ?_))))
      · repeat first | exact trivial | refine And.intro rfl ?_ | refine And.intro trivial ?_ | refine And.intro (And.intro rfl trivial) ?_ | refine And.intro (And.intro rfl (And.intro rfl trivial)) ?_
        refine And.intro (And.intro (rwS ?_) trivial) ?_
        · show List.replicate ((ps.map spB).length : Int).toNat zSp = _
          simp
        · repeat first | exact trivial | refine And.intro rfl ?_ | refine And.intro trivial ?_ | refine And.intro (And.intro rfl trivial) ?_ | refine And.intro (And.intro rfl (And.intro rfl trivial)) ?_
      · rintro ⟨k, hk⟩
        repeat first | refine And.intro rfl ?_ | refine Or.inl (And.intro rfl ?_) | refine Or.inr (And.intro rfl ?_) | refine And.intro (fun (_ : true = true) => ?_) (fun (h : true = false) => Bool.noConfusion h) | refine And.intro (fun (h : false = true) => Bool.noConfusion h) (fun (_ : false = false) => ?_)
        refine And.intro (fun hc => ?_) (fun hc => ?_)
        · have hk' : (k : Int) < (ps.map spB).length := of_decide_eq_true hc
          have hkl : k < ps.length := by rw [List.length_map] at hk'; omega
          have g1 : (ps.map spB).getD (k : Int).toNat [] = spB (ps.getD k (0, 0)) := getD_sp ps k hkl
          have hrow : (List.replicate (ps.length - k) zSp ++ (((ps.take k).map (apZ true q)).reverse).map spB).length = ps.length := by simp; omega
          have hw : IntKind.i64.wrap (IntKind.i64.wrap (((ps.map spB).length : Int) - 1) - (k : Int)) = ((ps.length - k - 1 : Nat) : Int) := by
            rw [List.length_map, wI (x := (ps.length : Int) - 1) (by omega) (by omega), wI (by omega) (by omega)]
            omega
          repeat first | refine And.intro rfl ?_ | refine Or.inl (And.intro rfl ?_) | refine Or.inr (And.intro rfl ?_) | refine And.intro (fun (_ : true = true) => ?_) (fun (h : true = false) => Bool.noConfusion h) | refine And.intro (fun (h : false = true) => Bool.noConfusion h) (fun (_ : false = false) => ?_)
          refine And.intro (show 0 ≤ (k : Int) ∧ (k : Int) < (ps.map spB).length by omega) ?_
          rw [g1]
          repeat first | refine And.intro rfl ?_ | refine Or.inl (And.intro rfl ?_) | refine Or.inr (And.intro rfl ?_) | refine And.intro (fun (_ : true = true) => ?_) (fun (h : true = false) => Bool.noConfusion h) | refine And.intro (fun (h : false = true) => Bool.noConfusion h) (fun (_ : false = false) => ?_)
          refine And.intro trivial ?_
          repeat first | refine And.intro rfl ?_ | refine Or.inl (And.intro rfl ?_) | refine Or.inr (And.intro rfl ?_) | refine And.intro (fun (_ : true = true) => ?_) (fun (h : true = false) => Bool.noConfusion h) | refine And.intro (fun (h : false = true) => Bool.noConfusion h) (fun (_ : false = false) => ?_)
          refine And.intro (show 0 ≤ IntKind.i64.wrap (IntKind.i64.wrap (((ps.map spB).length : Int) - 1) - (k : Int)) ∧ IntKind.i64.wrap (IntKind.i64.wrap (((ps.map spB).length : Int) - 1) - (k : Int)) < (List.replicate (ps.length - k) zSp ++ (((ps.take k).map (apZ true q)).reverse).map spB).length by rw [hw, hrow]; omega) ?_
          repeat first | refine And.intro rfl ?_ | refine Or.inl (And.intro rfl ?_) | refine Or.inr (And.intro rfl ?_) | refine And.intro (fun (_ : true = true) => ?_) (fun (h : true = false) => Bool.noConfusion h) | refine And.intro (fun (h : false = true) => Bool.noConfusion h) (fun (_ : false = false) => ?_)
          refine And.intro (show (IntKind.i64.wrap (IntKind.i64.wrap (((ps.map spB).length : Int) - 1) - (k : Int))).toNat < (List.replicate (ps.length - k) zSp ++ (((ps.take k).map (apZ true q)).reverse).map spB).length by rw [hw, hrow]; omega) ?_
          repeat first | refine And.intro rfl ?_ | refine Or.inl (And.intro rfl ?_) | refine Or.inr (And.intro rfl ?_) | refine And.intro (fun (_ : true = true) => ?_) (fun (h : true = false) => Bool.noConfusion h) | refine And.intro (fun (h : false = true) => Bool.noConfusion h) (fun (_ : false = false) => ?_)
          refine Exists.intro ⟨k + 1, by omega⟩ (And.intro (show ps.length - (k + 1) < ps.length - k by omega) ?_)
          repeat first | exact trivial | refine And.intro rfl ?_ | refine And.intro trivial ?_ | refine And.intro (And.intro rfl trivial) ?_ | refine And.intro (And.intro rfl (And.intro rfl trivial)) ?_
          refine And.intro (And.intro (rwS ?_) trivial) ?_
          · show (List.replicate (ps.length - k) zSp ++ (((ps.take k).map (apZ true q)).reverse).map spB).set (IntKind.i64.wrap (IntKind.i64.wrap (((ps.map spB).length : Int) - 1) - (k : Int))).toNat (spB (apZ true q (ps.getD k (0, 0)))) = _
            rw [hw, Int.toNat_natCast, set_right _ _ _ _ (by omega), take_succ_map (apZ true q) ps (0, 0) k hkl, List.reverse_append]
            rfl
          · repeat first | exact trivial | refine And.intro rfl ?_ | refine And.intro trivial ?_ | refine And.intro (And.intro rfl trivial) ?_ | refine And.intro (And.intro rfl (And.intro rfl trivial)) ?_
            exact And.intro (avI (show IntKind.i64.wrap ((k : Int) + 1) = ((k + 1 : Nat) : Int) by rw [wI (by omega) (by omega)]; omega)) trivial
        · have hk' : ¬ (k : Int) < (ps.map spB).length := of_decide_eq_false hc
          rw [List.length_map] at hk'
          repeat first | refine And.intro rfl ?_ | refine Or.inl (And.intro rfl ?_) | refine Or.inr (And.intro rfl ?_) | refine And.intro (fun (_ : true = true) => ?_) (fun (h : true = false) => Bool.noConfusion h) | refine And.intro (fun (h : false = true) => Bool.noConfusion h) (fun (_ : false = false) => ?_)
          refine resSl ?_
          show List.replicate (ps.length - k) zSp ++ (((ps.take k).map (apZ true q)).reverse).map spB = ((ps.map (apZ true q)).reverse).map spB
          rw [List.take_of_length_le (by omega), show ps.length - k = 0 by omega]
          simp
  · cases h

end Go.Gm
