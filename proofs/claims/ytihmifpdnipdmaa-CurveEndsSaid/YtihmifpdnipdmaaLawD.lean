/-
  The statements about curves: the chapter's examples. Plain theorems; no condition.
-/
import Derived.Test.YtihmifpdnipdmaaSameB
import Derived.Test.YtihmifpdnipdmaaCurveE
set_option linter.all false
namespace Go.Gm
open Go.Proofs

def TE0 : Table := [(53, sAt), (93, sSplit), (98, sFlatten), (52, sReverse), (95, sBox), (56, sSame9), (49, sLight9), (57, sOne), (107, sPts), (38, sLight3), (55, sPtSame), (59, sPtOf)] ++ TPt1
theorem TE0_ok : TabOk TE0 := TabOk.append (TabOk.cons ok_At (TabOk.cons ok_Split (TabOk.cons ok_Flatten (TabOk.cons ok_Reverse (TabOk.cons ok_Box (TabOk.cons ok_Same9 (TabOk.cons ok_Light9 (TabOk.cons ok_one (TabOk.cons ok_pts (TabOk.cons ok_Light3 (TabOk.cons ok_ptSame (TabOk.cons ok_ptOf TabOk.nil)))))))))))) TPt1_ok

attribute [local irreducible] sameL bez leftQ rightQ fltQ boxLo boxHi mkRat rq pairs

theorem pts_pre (l : List Int) (h : l.length ≤ 1000) (h2 : ∀ n, n ∈ l → InR n) : l.map inB = ((l.map inB).map inOf).map inB ∧ (l.map inB).length ≤ 1000 ∧ ∀ n, n ∈ (l.map inB).map inOf → InR n := by
  have e : (l.map inB).map inOf = l := by
    rw [List.map_map]
    conv => rhs; rw [← List.map_id l]
    exact List.map_congr_left (fun n _ => rfl)
  rw [e, List.length_map]
  exact ⟨rfl, h, h2⟩

theorem ok_nB (L : List (Rat × Rat)) : okC (nB L) = decide (2 ≤ L.length ∧ L.length ≤ 4) := by unfold okC; rw [nB_len]
theorem vals_nB (L : List (Rat × Rat)) : valsOf (nB L) = L := valsOf_Q L
theorem sh_nB {n m : Nat} {L : List (Rat × Rat)} (h : ∀ p, p ∈ L → Sp n p) (hm : n ≤ m) : ShP m (nB L) := by
  refine ⟨isP_B _, ?_⟩
  unfold nB
  rw [ptsOf_B]
  intro p hp
  obtain ⟨q, hq, rfl⟩ := List.mem_map.1 hp
  exact prQ_le (h q hq) hm
theorem same_nB {L M : List (Rat × Rat)} (h : L = M) : sameL (ptsOf (nB L)) (ptsOf (nB M)) = true := by
  subst h
  exact sameL_iff.2 rfl
theorem szB {q : Rat} (h : q.num.natAbs < 4294967296 ∧ q.den < 4294967296) : Sz 1 q := ⟨by rw [Nat.pow_one]; exact h.1, by rw [Nat.pow_one]; exact h.2⟩
/-- Lists of small numbers. -/
def smallQ (L : List (Rat × Rat)) : Bool := L.all fun p => decide (p.1.num.natAbs < 4294967296 ∧ p.1.den < 4294967296) && decide (p.2.num.natAbs < 4294967296 ∧ p.2.den < 4294967296)
theorem small_sp {L : List (Rat × Rat)} (h : smallQ L = true) : ∀ p, p ∈ L → Sp 1 p := by
  intro p hp
  have := (List.all_eq_true.1 h) p hp
  simp only [Bool.and_eq_true, decide_eq_true_eq] at this
  exact ⟨szB this.1, szB this.2⟩

set_option maxHeartbeats 2000000 in
theorem ok_example09 : Ok1 50 sTrue0 := by
  refine ok_of TE0_ok Try.func50 rfl (by kernel_rfl) ?_
  intro xs pre res h hp hlim
  unfold sTrue0 at h
  split at h
  · cases h
    refine And.intro (Nat.le_of_ble_eq_true rfl) ?_
    repeat first | refine And.intro rfl ?_ | refine Or.inl (And.intro rfl ?_) | refine Or.inr (And.intro rfl ?_) | refine And.intro (fun (_ : true = true) => ?_) (fun (h : true = false) => Bool.noConfusion h) | refine And.intro (fun (h : false = true) => Bool.noConfusion h) (fun (_ : false = false) => ?_)
    repeat first | refine And.intro rfl ?_ | refine And.intro True.intro ?_ | refine Or.inl (And.intro rfl ?_) | refine Or.inr (And.intro rfl ?_) | refine And.intro (fun (_ : true = true) => ?_) (fun (h : true = false) => Bool.noConfusion h) | refine And.intro (fun (h : false = true) => Bool.noConfusion h) (fun (_ : false = false) => ?_)
    refine And.intro (show _ ∧ _ ∧ _ ∧ _ ∧ _ ∧ DivFit _ from ⟨by decide, by decide, by decide, by decide, by decide, trivial⟩) ?_
    generalize eh : mkRat (sg _ _) _ = h
    have hz : Sz 1 h := by rw [← eh]; exact szB (by decide +kernel)
    have hq := rq_cq h
    repeat first | refine And.intro rfl ?_ | refine And.intro True.intro ?_ | refine Or.inl (And.intro rfl ?_) | refine Or.inr (And.intro rfl ?_) | refine And.intro (fun (_ : true = true) => ?_) (fun (h : true = false) => Bool.noConfusion h) | refine And.intro (fun (h : false = true) => Bool.noConfusion h) (fun (_ : false = false) => ?_)
    refine And.intro (pts_pre [0, 0, 0, 4, 4, 4] (by decide) (by decide)) ?_
    generalize eC : pairs _ = C
    have hC : C.length = 3 := by rw [← eC]; decide +kernel
    have sC : ∀ p, p ∈ C → Sp 1 p := small_sp (by rw [← eC]; decide +kernel)
    have oC : okC (nB C) = true := by rw [ok_nB, hC]; rfl
    have vC := vals_nB C
    repeat first | refine And.intro rfl ?_ | refine And.intro True.intro ?_ | refine Or.inl (And.intro rfl ?_) | refine Or.inr (And.intro rfl ?_) | refine And.intro (fun (_ : true = true) => ?_) (fun (h : true = false) => Bool.noConfusion h) | refine And.intro (fun (h : false = true) => Bool.noConfusion h) (fun (_ : false = false) => ?_)
    refine And.intro (And.intro (sh_nB sC (by decide)) (And.intro (hz.lenN (by decide)) (hz.lenD (by decide)))) ?_
    rw [oC, vC, hq]
    generalize eP : bez C h = P
    have sP : Sp 1 P := small_sp (L := [P]) (by rw [← eP, ← eC, ← eh]; decide +kernel) P (by simp)
    repeat first | refine And.intro rfl ?_ | refine And.intro True.intro ?_ | refine Or.inl (And.intro rfl ?_) | refine Or.inr (And.intro rfl ?_) | refine And.intro (fun (_ : true = true) => ?_) (fun (h : true = false) => Bool.noConfusion h) | refine And.intro (fun (h : false = true) => Bool.noConfusion h) (fun (_ : false = false) => ?_)
    refine And.intro (pts_pre [0, 0, 0, 8, 8, 8, 8, 0] (by decide) (by decide)) ?_
    generalize eD : pairs _ = D
    have hD : D.length = 4 := by rw [← eD]; decide +kernel
    have sD : ∀ p, p ∈ D → Sp 1 p := small_sp (by rw [← eD]; decide +kernel)
    have oD : okC (nB D) = true := by rw [ok_nB, hD]; rfl
    have vD := vals_nB D
    repeat first | refine And.intro rfl ?_ | refine And.intro True.intro ?_ | refine Or.inl (And.intro rfl ?_) | refine Or.inr (And.intro rfl ?_) | refine And.intro (fun (_ : true = true) => ?_) (fun (h : true = false) => Bool.noConfusion h) | refine And.intro (fun (h : false = true) => Bool.noConfusion h) (fun (_ : false = false) => ?_)
    refine And.intro (And.intro (sh_nB sD (by decide)) (And.intro (hz.lenN (by decide)) (hz.lenD (by decide)))) ?_
    rw [oD, vD, hq]
    generalize eQ : bez D h = Q
    have sQ : Sp 1 Q := small_sp (L := [Q]) (by rw [← eQ, ← eD, ← eh]; decide +kernel) Q (by simp)
    repeat first | refine And.intro rfl ?_ | refine And.intro True.intro ?_ | refine Or.inl (And.intro rfl ?_) | refine Or.inr (And.intro rfl ?_) | refine And.intro (fun (_ : true = true) => ?_) (fun (h : true = false) => Bool.noConfusion h) | refine And.intro (fun (h : false = true) => Bool.noConfusion h) (fun (_ : false = false) => ?_)
    refine And.intro (And.intro (sh_nB sC (by decide)) (And.intro (hz.lenN (by decide)) (hz.lenD (by decide)))) ?_
    rw [oC, vC, hq]
    generalize eA : leftQ C h = A
    generalize eB : rightQ C h = B'
    have sA : ∀ p, p ∈ A → Sp 1 p := small_sp (by rw [← eA, ← eC, ← eh]; decide +kernel)
    have sB : ∀ p, p ∈ B' → Sp 1 p := small_sp (by rw [← eB, ← eC, ← eh]; decide +kernel)
    repeat first | refine And.intro rfl ?_ | refine And.intro True.intro ?_ | refine Or.inl (And.intro rfl ?_) | refine Or.inr (And.intro rfl ?_) | refine And.intro (fun (_ : true = true) => ?_) (fun (h : true = false) => Bool.noConfusion h) | refine And.intro (fun (h : false = true) => Bool.noConfusion h) (fun (_ : false = false) => ?_)
    refine And.intro (And.intro (sh_nB sC (by decide)) (by decide)) ?_
    rw [oC, vC]
    generalize eF : fltQ C _ = F
    have sF : ∀ p, p ∈ F → Sp 1 p := small_sp (by rw [← eF, ← eC]; decide +kernel)
    repeat first | refine And.intro rfl ?_ | refine And.intro True.intro ?_ | refine Or.inl (And.intro rfl ?_) | refine Or.inr (And.intro rfl ?_) | refine And.intro (fun (_ : true = true) => ?_) (fun (h : true = false) => Bool.noConfusion h) | refine And.intro (fun (h : false = true) => Bool.noConfusion h) (fun (_ : false = false) => ?_)
    refine And.intro (sh_nB sC (by decide)) ?_
    rw [oC, vC]
    generalize eLo : boxLo C = lo
    generalize eHi : boxHi C = hi
    have sL : ∀ p, p ∈ [lo, hi] → Sp 1 p := small_sp (by rw [← eLo, ← eHi, ← eC]; decide +kernel)
    repeat first | refine And.intro rfl ?_ | refine And.intro True.intro ?_ | refine Or.inl (And.intro rfl ?_) | refine Or.inr (And.intro rfl ?_) | refine And.intro (fun (_ : true = true) => ?_) (fun (h : true = false) => Bool.noConfusion h) | refine And.intro (fun (h : false = true) => Bool.noConfusion h) (fun (_ : false = false) => ?_)
    have hcut : (cutL (nB C) none (some 1)).length = 1 := by
      show ((nB C).take (1 : Int).toNat).length = 1
      rw [List.length_take, nB_len, hC]
      rfl
    have oC1 : okC (cutL (nB C) none (some 1)) = false := by unfold okC; rw [hcut]; rfl
    have sC1 : ShP 300 (cutL (nB C) none (some 1)) := by
      have e : cutL (nB C) none (some 1) = nB (C.take 1) := by
        show (nB C).take (1 : Int).toNat = nB (C.take 1)
        unfold nB nrm
        rw [List.map_take, List.map_take]
        rfl
      rw [e]
      exact sh_nB (fun p hp => sC p (List.mem_of_mem_take hp)) (by decide)
    refine And.intro (show 0 ≤ (1 : Int) ∧ (1 : Int) ≤ (((nB C).length : Nat) : Int) by rw [nB_len, hC]; decide) ?_
    repeat first | refine And.intro rfl ?_ | refine And.intro True.intro ?_ | refine Or.inl (And.intro rfl ?_) | refine Or.inr (And.intro rfl ?_) | refine And.intro (fun (_ : true = true) => ?_) (fun (h : true = false) => Bool.noConfusion h) | refine And.intro (fun (h : false = true) => Bool.noConfusion h) (fun (_ : false = false) => ?_)
    refine And.intro (And.intro sC1 (And.intro (hz.lenN (by decide)) (hz.lenD (by decide)))) ?_
    rw [oC1, hq]
    generalize bez (valsOf (cutL (nB C) none (some 1))) h = Z
    repeat first | refine And.intro rfl ?_ | refine And.intro True.intro ?_ | refine Or.inl (And.intro rfl ?_) | refine Or.inr (And.intro rfl ?_) | refine And.intro (fun (_ : true = true) => ?_) (fun (h : true = false) => Bool.noConfusion h) | refine And.intro (fun (h : false = true) => Bool.noConfusion h) (fun (_ : false = false) => ?_)
    refine And.intro (And.intro (sh_nB sC (by decide)) (by decide)) ?_
    rw [oC]
    repeat first | refine And.intro rfl ?_ | refine And.intro True.intro ?_ | refine Or.inl (And.intro rfl ?_) | refine Or.inr (And.intro rfl ?_) | refine And.intro (fun (_ : true = true) => ?_) (fun (h : true = false) => Bool.noConfusion h) | refine And.intro (fun (h : false = true) => Bool.noConfusion h) (fun (_ : false = false) => ?_)
    refine And.intro (pts_pre [1, 3] (by decide) (by decide)) ?_
    generalize e1 : pairs _ = E1
    repeat first | refine And.intro rfl ?_ | refine And.intro True.intro ?_ | refine Or.inl (And.intro rfl ?_) | refine Or.inr (And.intro rfl ?_) | refine And.intro (fun (_ : true = true) => ?_) (fun (h : true = false) => Bool.noConfusion h) | refine And.intro (fun (h : false = true) => Bool.noConfusion h) (fun (_ : false = false) => ?_)
    refine And.intro (And.intro (show ShP 1000000 (nB [P]) from sh_nB (fun p hp => by simp only [List.mem_singleton] at hp; rw [hp]; exact sP) (by decide)) (And.intro (isP_B _) (show (nB [P]).length ≤ 1000 by rw [nB_len]; exact Nat.le_of_ble_eq_true rfl))) ?_
    repeat first | refine And.intro rfl ?_ | refine And.intro True.intro ?_ | refine Or.inl (And.intro rfl ?_) | refine Or.inr (And.intro rfl ?_) | refine And.intro (fun (_ : true = true) => ?_) (fun (h : true = false) => Bool.noConfusion h) | refine And.intro (fun (h : false = true) => Bool.noConfusion h) (fun (_ : false = false) => ?_)
    refine Or.inl (And.intro (same_nB (L := [P]) (M := E1) (by rw [← eP, ← eC, ← eh, ← e1]; decide +kernel)) ?_)
    repeat first | refine And.intro rfl ?_ | refine And.intro True.intro ?_ | refine Or.inl (And.intro rfl ?_) | refine Or.inr (And.intro rfl ?_) | refine And.intro (fun (_ : true = true) => ?_) (fun (h : true = false) => Bool.noConfusion h) | refine And.intro (fun (h : false = true) => Bool.noConfusion h) (fun (_ : false = false) => ?_)
    refine And.intro (pts_pre [4, 6] (by decide) (by decide)) ?_
    generalize e2 : pairs _ = E2
    repeat first | refine And.intro rfl ?_ | refine And.intro True.intro ?_ | refine Or.inl (And.intro rfl ?_) | refine Or.inr (And.intro rfl ?_) | refine And.intro (fun (_ : true = true) => ?_) (fun (h : true = false) => Bool.noConfusion h) | refine And.intro (fun (h : false = true) => Bool.noConfusion h) (fun (_ : false = false) => ?_)
    refine And.intro (And.intro (show ShP 1000000 (nB [Q]) from sh_nB (fun p hp => by simp only [List.mem_singleton] at hp; rw [hp]; exact sQ) (by decide)) (And.intro (isP_B _) (show (nB [Q]).length ≤ 1000 by rw [nB_len]; exact Nat.le_of_ble_eq_true rfl))) ?_
    repeat first | refine And.intro rfl ?_ | refine And.intro True.intro ?_ | refine Or.inl (And.intro rfl ?_) | refine Or.inr (And.intro rfl ?_) | refine And.intro (fun (_ : true = true) => ?_) (fun (h : true = false) => Bool.noConfusion h) | refine And.intro (fun (h : false = true) => Bool.noConfusion h) (fun (_ : false = false) => ?_)
    refine Or.inl (And.intro (same_nB (L := [Q]) (M := E2) (by rw [← eQ, ← eD, ← eh, ← e2]; decide +kernel)) ?_)
    repeat first | refine And.intro rfl ?_ | refine And.intro True.intro ?_ | refine Or.inl (And.intro rfl ?_) | refine Or.inr (And.intro rfl ?_) | refine And.intro (fun (_ : true = true) => ?_) (fun (h : true = false) => Bool.noConfusion h) | refine And.intro (fun (h : false = true) => Bool.noConfusion h) (fun (_ : false = false) => ?_)
    refine And.intro (pts_pre [0, 0, 0, 2, 1, 3] (by decide) (by decide)) ?_
    generalize e3 : pairs _ = E3
    repeat first | refine And.intro rfl ?_ | refine And.intro True.intro ?_ | refine Or.inl (And.intro rfl ?_) | refine Or.inr (And.intro rfl ?_) | refine And.intro (fun (_ : true = true) => ?_) (fun (h : true = false) => Bool.noConfusion h) | refine And.intro (fun (h : false = true) => Bool.noConfusion h) (fun (_ : false = false) => ?_)
    refine And.intro (And.intro (show ShP 1000000 (nB A) from sh_nB sA (by decide)) (And.intro (isP_B _) (show (nB A).length ≤ 1000 by rw [nB_len]; rw [← eA, ← eC, ← eh]; decide +kernel))) ?_
    repeat first | refine And.intro rfl ?_ | refine And.intro True.intro ?_ | refine Or.inl (And.intro rfl ?_) | refine Or.inr (And.intro rfl ?_) | refine And.intro (fun (_ : true = true) => ?_) (fun (h : true = false) => Bool.noConfusion h) | refine And.intro (fun (h : false = true) => Bool.noConfusion h) (fun (_ : false = false) => ?_)
    refine Or.inl (And.intro (same_nB (L := A) (M := E3) (by rw [← eA, ← eC, ← eh, ← e3]; decide +kernel)) ?_)
    repeat first | refine And.intro rfl ?_ | refine And.intro True.intro ?_ | refine Or.inl (And.intro rfl ?_) | refine Or.inr (And.intro rfl ?_) | refine And.intro (fun (_ : true = true) => ?_) (fun (h : true = false) => Bool.noConfusion h) | refine And.intro (fun (h : false = true) => Bool.noConfusion h) (fun (_ : false = false) => ?_)
    refine And.intro (pts_pre [1, 3, 2, 4, 4, 4] (by decide) (by decide)) ?_
    generalize e4 : pairs _ = E4
    repeat first | refine And.intro rfl ?_ | refine And.intro True.intro ?_ | refine Or.inl (And.intro rfl ?_) | refine Or.inr (And.intro rfl ?_) | refine And.intro (fun (_ : true = true) => ?_) (fun (h : true = false) => Bool.noConfusion h) | refine And.intro (fun (h : false = true) => Bool.noConfusion h) (fun (_ : false = false) => ?_)
    refine And.intro (And.intro (show ShP 1000000 (nB B') from sh_nB sB (by decide)) (And.intro (isP_B _) (show (nB B').length ≤ 1000 by rw [nB_len]; rw [← eB, ← eC, ← eh]; decide +kernel))) ?_
    repeat first | refine And.intro rfl ?_ | refine And.intro True.intro ?_ | refine Or.inl (And.intro rfl ?_) | refine Or.inr (And.intro rfl ?_) | refine And.intro (fun (_ : true = true) => ?_) (fun (h : true = false) => Bool.noConfusion h) | refine And.intro (fun (h : false = true) => Bool.noConfusion h) (fun (_ : false = false) => ?_)
    refine Or.inl (And.intro (same_nB (L := B') (M := E4) (by rw [← eB, ← eC, ← eh, ← e4]; decide +kernel)) ?_)
    repeat first | refine And.intro rfl ?_ | refine And.intro True.intro ?_ | refine Or.inl (And.intro rfl ?_) | refine Or.inr (And.intro rfl ?_) | refine And.intro (fun (_ : true = true) => ?_) (fun (h : true = false) => Bool.noConfusion h) | refine And.intro (fun (h : false = true) => Bool.noConfusion h) (fun (_ : false = false) => ?_)
    refine And.intro (pts_pre [0, 0, 1, 3, 4, 4] (by decide) (by decide)) ?_
    generalize e5 : pairs _ = E5
    repeat first | refine And.intro rfl ?_ | refine And.intro True.intro ?_ | refine Or.inl (And.intro rfl ?_) | refine Or.inr (And.intro rfl ?_) | refine And.intro (fun (_ : true = true) => ?_) (fun (h : true = false) => Bool.noConfusion h) | refine And.intro (fun (h : false = true) => Bool.noConfusion h) (fun (_ : false = false) => ?_)
    refine And.intro (And.intro (show ShP 1000000 (nB F) from sh_nB sF (by decide)) (And.intro (isP_B _) (show (nB F).length ≤ 1000 by rw [nB_len]; rw [← eF, ← eC]; decide +kernel))) ?_
    repeat first | refine And.intro rfl ?_ | refine And.intro True.intro ?_ | refine Or.inl (And.intro rfl ?_) | refine Or.inr (And.intro rfl ?_) | refine And.intro (fun (_ : true = true) => ?_) (fun (h : true = false) => Bool.noConfusion h) | refine And.intro (fun (h : false = true) => Bool.noConfusion h) (fun (_ : false = false) => ?_)
    refine Or.inl (And.intro (same_nB (L := F) (M := E5) (by rw [← eF, ← eC, ← e5]; decide +kernel)) ?_)
    repeat first | refine And.intro rfl ?_ | refine And.intro True.intro ?_ | refine Or.inl (And.intro rfl ?_) | refine Or.inr (And.intro rfl ?_) | refine And.intro (fun (_ : true = true) => ?_) (fun (h : true = false) => Bool.noConfusion h) | refine And.intro (fun (h : false = true) => Bool.noConfusion h) (fun (_ : false = false) => ?_)
    refine And.intro (pts_pre [0, 0, 4, 4] (by decide) (by decide)) ?_
    generalize e6 : pairs _ = E6
    repeat first | refine And.intro rfl ?_ | refine And.intro True.intro ?_ | refine Or.inl (And.intro rfl ?_) | refine Or.inr (And.intro rfl ?_) | refine And.intro (fun (_ : true = true) => ?_) (fun (h : true = false) => Bool.noConfusion h) | refine And.intro (fun (h : false = true) => Bool.noConfusion h) (fun (_ : false = false) => ?_)
    refine And.intro (And.intro (show ShP 1000000 (nB [lo, hi]) from sh_nB sL (by decide)) (And.intro (isP_B _) (show (nB [lo, hi]).length ≤ 1000 by rw [nB_len]; exact Nat.le_of_ble_eq_true rfl))) ?_
    repeat first | refine And.intro rfl ?_ | refine And.intro True.intro ?_ | refine Or.inl (And.intro rfl ?_) | refine Or.inr (And.intro rfl ?_) | refine And.intro (fun (_ : true = true) => ?_) (fun (h : true = false) => Bool.noConfusion h) | refine And.intro (fun (h : false = true) => Bool.noConfusion h) (fun (_ : false = false) => ?_)
    refine Or.inl (And.intro (same_nB (L := [lo, hi]) (M := E6) (by rw [← eLo, ← eHi, ← eC, ← e6]; decide +kernel)) ?_)
    repeat first | refine And.intro rfl ?_ | refine And.intro True.intro ?_ | refine Or.inl (And.intro rfl ?_) | refine Or.inr (And.intro rfl ?_) | refine And.intro (fun (_ : true = true) => ?_) (fun (h : true = false) => Bool.noConfusion h) | refine And.intro (fun (h : false = true) => Bool.noConfusion h) (fun (_ : false = false) => ?_)
    refine And.intro (And.intro (sh_nB sC (by decide)) (show (nB C).length ≤ 1000 by rw [nB_len, hC]; decide)) ?_
    rw [vC]
    repeat first | refine And.intro rfl ?_ | refine And.intro True.intro ?_ | refine Or.inl (And.intro rfl ?_) | refine Or.inr (And.intro rfl ?_) | refine And.intro (fun (_ : true = true) => ?_) (fun (h : true = false) => Bool.noConfusion h) | refine And.intro (fun (h : false = true) => Bool.noConfusion h) (fun (_ : false = false) => ?_)
    refine And.intro (pts_pre [4, 4, 0, 4, 0, 0] (by decide) (by decide)) ?_
    generalize e7 : pairs _ = E7
    repeat first | refine And.intro rfl ?_ | refine And.intro True.intro ?_ | refine Or.inl (And.intro rfl ?_) | refine Or.inr (And.intro rfl ?_) | refine And.intro (fun (_ : true = true) => ?_) (fun (h : true = false) => Bool.noConfusion h) | refine And.intro (fun (h : false = true) => Bool.noConfusion h) (fun (_ : false = false) => ?_)
    refine And.intro (And.intro (show ShP 1000000 (nB C.reverse) from sh_nB (fun p hp => sC p (List.mem_reverse.1 hp)) (by decide)) (And.intro (isP_B _) (show (nB C.reverse).length ≤ 1000 by rw [nB_len]; rw [← eC]; decide +kernel))) ?_
    exact resB (same_nB (L := C.reverse) (M := E7) (by rw [← eC, ← e7]; decide +kernel))
  · cases h

end Go.Gm
