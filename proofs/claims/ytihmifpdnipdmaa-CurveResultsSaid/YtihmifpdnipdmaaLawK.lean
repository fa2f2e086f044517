/-
  The statements about curves, part K: CurveResults. Plain theorems; no condition.
-/
import Derived.Test.YtihmifpdnipdmaaR9C
import Derived.Test.YtihmifpdnipdmaaLawJr
set_option linter.all false
namespace Go.Gm
open Go.Proofs

def TE4 : Table := [(92, sAt), (94, sSplit), (96, sBox), (97, sReverse)] ++ TE1
theorem TE4_ok : TabOk TE4 := TabOk.append (TabOk.cons ok_yAt (TabOk.cons ok_ySplit (TabOk.cons ok_yBox (TabOk.cons ok_yReverse TabOk.nil)))) TE1_ok

/-- A point in normal form, or nothing. -/
def prZ (z : Bool) (p : Rat × Rat) : PR := ⟨cond z false (decide (p.1.num < 0)), cond z [] (dg p.1.num.natAbs), cond z [] (dg p.1.den), cond z false (decide (p.2.num < 0)), cond z [] (dg p.2.num.natAbs), cond z [] (dg p.2.den)⟩
theorem prZ_le {z : Bool} {n : Nat} {p : Rat × Rat} (h : z = true → Sp n p) : (prZ (!z) p).Le n := by
  cases z with
  | true => exact prQ_le (h rfl) (Nat.le_refl _)
  | false => exact ⟨Nat.zero_le _, Nat.zero_le _, Nat.zero_le _, Nat.zero_le _⟩
theorem sh_if {z : Bool} {n : Nat} {L : List (Rat × Rat)} (h : z = true → ∀ p, p ∈ L → Sp n p) : ShP n (cond z (nB L) []) ∧ IsP (cond z (nB L) []) := by
  cases z with
  | true =>
    have := sh_nB (h rfl) (Nat.le_refl n)
    exact ⟨this, this.1⟩
  | false => exact ⟨sh_nB (L := []) (fun _ h => by cases h) (Nat.le_refl _), isP_B []⟩
theorem ShP.mono {n m : Nat} {l : List (List BV)} (h : ShP n l) (hm : n ≤ m) : ShP m l := ⟨h.1, fun p hp => (h.2 p hp).mono hm⟩


attribute [local irreducible] sameL bez mkRat rq leftQ rightQ boxLo boxHi

def sCurveResults : List RV → Option (Prop × Res)
  | [.one (.sl 6 c), .agg [.b (.val (.bool s)), .b (.nat l), .b (.nat t)]] => some (IsP c, .r (.val (.bool true)))
  | _ => none

set_option maxRecDepth 20000 in
set_option maxHeartbeats 8000000 in
theorem ok_CurveResults : Ok1 22 sCurveResults := by
  refine ok_of TE4_ok Try.func22 rfl (by kernel_rfl) ?_
  intro xs pre res h hp hlim
  unfold sCurveResults at h
  split at h
  · rename_i c s l t
    cases h
    have hl : Lim l := hlim.2.1.2.1
    have ht : Lim t := hlim.2.1.2.2.1
    refine And.intro (Nat.le_of_ble_eq_true rfl) ?_
    repeat first | refine And.intro rfl ?_ | refine Or.inl (And.intro rfl ?_) | refine Or.inr (And.intro rfl ?_) | refine And.intro (fun (_ : true = true) => ?_) (fun (h : true = false) => Bool.noConfusion h) | refine And.intro (fun (h : false = true) => Bool.noConfusion h) (fun (_ : false = false) => ?_)
    refine And.intro (show IsP c ∧ (6 : Int) ≤ 1000 from ⟨hp, by decide⟩) ?_
    repeat first | refine And.intro rfl ?_ | refine And.intro True.intro ?_ | refine Or.inl (And.intro rfl ?_) | refine Or.inr (And.intro rfl ?_) | refine And.intro (fun (_ : true = true) => ?_) (fun (h : true = false) => Bool.noConfusion h) | refine And.intro (fun (h : false = true) => Bool.noConfusion h) (fun (_ : false = false) => ?_)
    cases hL : (decide ((c.length : Int) ≤ 6) && (ptsOf c).all (lightPR 4)) with
    | false =>
      refine Or.inr (And.intro rfl ?_)
      repeat first | refine And.intro rfl ?_ | refine And.intro True.intro ?_ | refine Or.inl (And.intro rfl ?_) | refine Or.inr (And.intro rfl ?_) | refine And.intro (fun (_ : true = true) => ?_) (fun (h : true = false) => Bool.noConfusion h) | refine And.intro (fun (h : false = true) => Bool.noConfusion h) (fun (_ : false = false) => ?_)
      rfl
    | true =>
      refine Or.inl (And.intro rfl ?_)
      obtain ⟨h6, ps, rfl, hpl, hps⟩ := light_c (m := 6) (n := 4) hp hL
      rw [← hpl] at h6
      have hlm := lm_of hlim.1
      repeat first | refine And.intro rfl ?_ | refine And.intro True.intro ?_ | refine Or.inl (And.intro rfl ?_) | refine Or.inr (And.intro rfl ?_) | refine And.intro (fun (_ : true = true) => ?_) (fun (h : true = false) => Bool.noConfusion h) | refine And.intro (fun (h : false = true) => Bool.noConfusion h) (fun (_ : false = false) => ?_)
      refine And.intro (fun hc => ?_) (fun hc => ?_)
      · repeat first | refine And.intro rfl ?_ | refine And.intro True.intro ?_ | refine Or.inl (And.intro rfl ?_) | refine Or.inr (And.intro rfl ?_) | refine And.intro (fun (_ : true = true) => ?_) (fun (h : true = false) => Bool.noConfusion h) | refine And.intro (fun (h : false = true) => Bool.noConfusion h) (fun (_ : false = false) => ?_)
        rfl
      have hT : (l.length : Int) ≤ 3 ∧ (t.length : Int) ≤ 3 := by
        have hc : (!decide ((l.length : Int) ≤ 3 ∧ (t.length : Int) ≤ 3)) = false := hc
        simpa using hc
      have vc := valsOf_B ps
      have svs := sp_vals hlm hps
      have hz := Sz.rq (s := s) (n := 3) hl ht (by omega) (by omega)
      obtain ⟨q, hq⟩ : ∃ q, q = rq s l t := ⟨_, rfl⟩
      rw [← hq] at hz
      obtain ⟨vs, hvs⟩ : ∃ vs, vs = ps.map PR.v := ⟨_, rfl⟩
      have hvl : vs.length = ps.length := by rw [hvs, List.length_map]
      rw [← hvs] at vc svs
      have hat : ShP 300 (ps.map ptB) ∧ l.length ≤ 300 ∧ t.length ≤ 300 := ⟨sh_ps hps (by decide), by omega, by omega⟩
      have hrv : ShP 60000 (ps.map ptB) ∧ (ps.map ptB).length ≤ 1000 := ⟨sh_ps hps (by decide), by rw [List.length_map]; omega⟩
      have hok : okC (ps.map ptB) = true → 2 ≤ vs.length ∧ vs.length ≤ 4 := fun h => by
        have := of_decide_eq_true h
        rw [List.length_map] at this
        omega
      have sP : okC (ps.map ptB) = true → Sp 300 (bez vs q) := fun h => (bez_sp3 hz (hok h).1 (hok h).2 svs).mono (by decide +kernel)
      have sL : okC (ps.map ptB) = true → ∀ p, p ∈ leftQ vs q → Sp 300 p := fun h p hp => (left_sp hz (hok h).1 (hok h).2 svs p hp).mono (by decide +kernel)
      have sR : okC (ps.map ptB) = true → ∀ p, p ∈ rightQ vs q → Sp 300 p := fun h p hp => (right_sp hz (hok h).1 (hok h).2 svs p hp).mono (by decide +kernel)
      have sLo : okC (ps.map ptB) = true → Sp 300 (boxLo vs) := fun h => (box_sp (hok h).1 svs).1.mono (by decide)
      have sHi : okC (ps.map ptB) = true → Sp 300 (boxHi vs) := fun h => (box_sp (hok h).1 svs).2.mono (by decide)
      have lenL : okC (ps.map ptB) = true → (leftQ vs q).length ≤ 4 := fun h => by rw [leftQ_len q (by have := hok h; omega)]; exact (hok h).2
      have lenR : okC (ps.map ptB) = true → (rightQ vs q).length ≤ 4 := fun h => by rw [rightQ_len q (by have := hok h; omega)]; exact (hok h).2
      have srv : ∀ p, p ∈ vs.reverse → Sp 5 p := fun p hp => svs p (List.mem_reverse.1 hp)
      generalize ez : okC (ps.map ptB) = z at sP sL sR sLo sHi lenL lenR
      generalize eP : bez vs q = P at sP
      generalize eL : leftQ vs q = L at sL lenL
      generalize eR : rightQ vs q = R at sR lenR
      generalize eLo : boxLo vs = lo at sLo
      generalize eHi : boxHi vs = hi at sHi
      have hA := sh_if (z := z) sL
      have hB := sh_if (z := z) sR
      have lA : (cond z (nB L) []).length ≤ 1000 := by
        cases z with
        | true => show (nB L).length ≤ 1000; rw [nB_len]; exact Nat.le_trans (lenL rfl) (by decide)
        | false => exact Nat.zero_le _
      have lB : (cond z (nB R) []).length ≤ 1000 := by
        cases z with
        | true => show (nB R).length ≤ 1000; rw [nB_len]; exact Nat.le_trans (lenR rfl) (by decide)
        | false => exact Nat.zero_le _
      generalize eA : cond z (nB L) [] = A at hA lA
      generalize eB : cond z (nB R) [] = B at hB lB
      have h3 : ShP 1000000 ([prZ (!z) P, prZ (!z) lo, prZ (!z) hi].map ptB) := by
        refine sh_ps (n := 300) (fun p hp => ?_) (by decide)
        simp only [List.mem_cons, List.not_mem_nil, or_false] at hp
        rcases hp with rfl | rfl | rfl
        · exact prZ_le sP
        · exact prZ_le sLo
        · exact prZ_le sHi
      repeat first | refine And.intro rfl ?_ | refine And.intro True.intro ?_ | refine Or.inl (And.intro rfl ?_) | refine Or.inr (And.intro rfl ?_) | refine And.intro (fun (_ : true = true) => ?_) (fun (h : true = false) => Bool.noConfusion h) | refine And.intro (fun (h : false = true) => Bool.noConfusion h) (fun (_ : false = false) => ?_)
      refine And.intro hat ?_
      rw [vc, ← hq, ez, eP]
      generalize eer : (bif z then (0 : Int) else 1) = er
      repeat first | refine And.intro rfl ?_ | refine And.intro True.intro ?_ | refine Or.inl (And.intro rfl ?_) | refine Or.inr (And.intro rfl ?_) | refine And.intro (fun (_ : true = true) => ?_) (fun (h : true = false) => Bool.noConfusion h) | refine And.intro (fun (h : false = true) => Bool.noConfusion h) (fun (_ : false = false) => ?_)
      refine And.intro hat ?_
      rw [vc, ← hq, ez, eP, eer]
      repeat first | refine And.intro rfl ?_ | refine And.intro True.intro ?_ | refine Or.inl (And.intro rfl ?_) | refine Or.inr (And.intro rfl ?_) | refine And.intro (fun (_ : true = true) => ?_) (fun (h : true = false) => Bool.noConfusion h) | refine And.intro (fun (h : false = true) => Bool.noConfusion h) (fun (_ : false = false) => ?_)
      refine And.intro hat ?_
      rw [vc, ← hq, ez, eL, eR, eA, eB, eer]
      repeat first | refine And.intro rfl ?_ | refine And.intro True.intro ?_ | refine Or.inl (And.intro rfl ?_) | refine Or.inr (And.intro rfl ?_) | refine And.intro (fun (_ : true = true) => ?_) (fun (h : true = false) => Bool.noConfusion h) | refine And.intro (fun (h : false = true) => Bool.noConfusion h) (fun (_ : false = false) => ?_)
      refine And.intro hat ?_
      rw [vc, ← hq, ez, eL, eR, eA, eB, eer]
      repeat first | refine And.intro rfl ?_ | refine And.intro True.intro ?_ | refine Or.inl (And.intro rfl ?_) | refine Or.inr (And.intro rfl ?_) | refine And.intro (fun (_ : true = true) => ?_) (fun (h : true = false) => Bool.noConfusion h) | refine And.intro (fun (h : false = true) => Bool.noConfusion h) (fun (_ : false = false) => ?_)
      refine And.intro hat.1 ?_
      rw [vc, ez, eLo, eHi, eer]
      repeat first | refine And.intro rfl ?_ | refine And.intro True.intro ?_ | refine Or.inl (And.intro rfl ?_) | refine Or.inr (And.intro rfl ?_) | refine And.intro (fun (_ : true = true) => ?_) (fun (h : true = false) => Bool.noConfusion h) | refine And.intro (fun (h : false = true) => Bool.noConfusion h) (fun (_ : false = false) => ?_)
      refine And.intro hat.1 ?_
      rw [vc, ez, eLo, eHi, eer]
      repeat first | refine And.intro rfl ?_ | refine And.intro True.intro ?_ | refine Or.inl (And.intro rfl ?_) | refine Or.inr (And.intro rfl ?_) | refine And.intro (fun (_ : true = true) => ?_) (fun (h : true = false) => Bool.noConfusion h) | refine And.intro (fun (h : false = true) => Bool.noConfusion h) (fun (_ : false = false) => ?_)
      refine Or.inl (And.intro (show (er != er) = false by simp) ?_)
      repeat first | refine And.intro rfl ?_ | refine And.intro True.intro ?_ | refine Or.inl (And.intro rfl ?_) | refine Or.inr (And.intro rfl ?_) | refine And.intro (fun (_ : true = true) => ?_) (fun (h : true = false) => Bool.noConfusion h) | refine And.intro (fun (h : false = true) => Bool.noConfusion h) (fun (_ : false = false) => ?_)
      refine Or.inl (And.intro (show (er != er) = false by simp) ?_)
      repeat first | refine And.intro rfl ?_ | refine And.intro True.intro ?_ | refine Or.inl (And.intro rfl ?_) | refine Or.inr (And.intro rfl ?_) | refine And.intro (fun (_ : true = true) => ?_) (fun (h : true = false) => Bool.noConfusion h) | refine And.intro (fun (h : false = true) => Bool.noConfusion h) (fun (_ : false = false) => ?_)
      refine Or.inl (And.intro (show (er != er) = false by simp) ?_)
      repeat first | refine And.intro rfl ?_ | refine And.intro True.intro ?_ | refine Or.inl (And.intro rfl ?_) | refine Or.inr (And.intro rfl ?_) | refine And.intro (fun (_ : true = true) => ?_) (fun (h : true = false) => Bool.noConfusion h) | refine And.intro (fun (h : false = true) => Bool.noConfusion h) (fun (_ : false = false) => ?_)
      refine And.intro (And.intro (hA.1.mono (by decide)) (And.intro hA.2 lA)) ?_
      repeat first | refine And.intro rfl ?_ | refine And.intro True.intro ?_ | refine Or.inl (And.intro rfl ?_) | refine Or.inr (And.intro rfl ?_) | refine And.intro (fun (_ : true = true) => ?_) (fun (h : true = false) => Bool.noConfusion h) | refine And.intro (fun (h : false = true) => Bool.noConfusion h) (fun (_ : false = false) => ?_)
      refine Or.inl (And.intro (show (!sameL (ptsOf A) (ptsOf A)) = false by rw [sameL_iff.2 rfl]; rfl) ?_)
      repeat first | refine And.intro rfl ?_ | refine And.intro True.intro ?_ | refine Or.inl (And.intro rfl ?_) | refine Or.inr (And.intro rfl ?_) | refine And.intro (fun (_ : true = true) => ?_) (fun (h : true = false) => Bool.noConfusion h) | refine And.intro (fun (h : false = true) => Bool.noConfusion h) (fun (_ : false = false) => ?_)
      refine And.intro (And.intro (hB.1.mono (by decide)) (And.intro hB.2 lB)) ?_
      repeat first | refine And.intro rfl ?_ | refine And.intro True.intro ?_ | refine Or.inl (And.intro rfl ?_) | refine Or.inr (And.intro rfl ?_) | refine And.intro (fun (_ : true = true) => ?_) (fun (h : true = false) => Bool.noConfusion h) | refine And.intro (fun (h : false = true) => Bool.noConfusion h) (fun (_ : false = false) => ?_)
      refine Or.inl (And.intro (show (!sameL (ptsOf B) (ptsOf B)) = false by rw [sameL_iff.2 rfl]; rfl) ?_)
      repeat first | refine And.intro rfl ?_ | refine And.intro True.intro ?_ | refine Or.inl (And.intro rfl ?_) | refine Or.inr (And.intro rfl ?_) | refine And.intro (fun (_ : true = true) => ?_) (fun (h : true = false) => Bool.noConfusion h) | refine And.intro (fun (h : false = true) => Bool.noConfusion h) (fun (_ : false = false) => ?_)
      refine And.intro hrv ?_
      rw [vc]
      repeat first | refine And.intro rfl ?_ | refine And.intro True.intro ?_ | refine Or.inl (And.intro rfl ?_) | refine Or.inr (And.intro rfl ?_) | refine And.intro (fun (_ : true = true) => ?_) (fun (h : true = false) => Bool.noConfusion h) | refine And.intro (fun (h : false = true) => Bool.noConfusion h) (fun (_ : false = false) => ?_)
      refine And.intro hrv ?_
      rw [vc]
      repeat first | refine And.intro rfl ?_ | refine And.intro True.intro ?_ | refine Or.inl (And.intro rfl ?_) | refine Or.inr (And.intro rfl ?_) | refine And.intro (fun (_ : true = true) => ?_) (fun (h : true = false) => Bool.noConfusion h) | refine And.intro (fun (h : false = true) => Bool.noConfusion h) (fun (_ : false = false) => ?_)
      refine And.intro (And.intro (sh_nB srv (by decide)) (And.intro (isP_B (nrm vs.reverse)) (show (nB vs.reverse).length ≤ 1000 by rw [nB_len, List.length_reverse]; omega))) ?_
      repeat first | refine And.intro rfl ?_ | refine And.intro True.intro ?_ | refine Or.inl (And.intro rfl ?_) | refine Or.inr (And.intro rfl ?_) | refine And.intro (fun (_ : true = true) => ?_) (fun (h : true = false) => Bool.noConfusion h) | refine And.intro (fun (h : false = true) => Bool.noConfusion h) (fun (_ : false = false) => ?_)
      refine And.intro (fun hc => ?_) (fun _ => ?_)
      · have hc : (!sameL (ptsOf (nB vs.reverse)) (ptsOf (nB vs.reverse))) = true := hc
        rw [sameL_iff.2 rfl] at hc
        cases hc
      repeat first | refine And.intro rfl ?_ | refine And.intro True.intro ?_ | refine Or.inl (And.intro rfl ?_) | refine Or.inr (And.intro rfl ?_) | refine And.intro (fun (_ : true = true) => ?_) (fun (h : true = false) => Bool.noConfusion h) | refine And.intro (fun (h : false = true) => Bool.noConfusion h) (fun (_ : false = false) => ?_)
      refine And.intro (And.intro h3 (And.intro h3.1 (show 3 ≤ 1000 by decide))) ?_
      repeat first | refine And.intro rfl ?_ | refine And.intro True.intro ?_ | refine Or.inl (And.intro rfl ?_) | refine Or.inr (And.intro rfl ?_) | refine And.intro (fun (_ : true = true) => ?_) (fun (h : true = false) => Bool.noConfusion h) | refine And.intro (fun (h : false = true) => Bool.noConfusion h) (fun (_ : false = false) => ?_)
      refine Or.inl (And.intro (show sameL (ptsOf ([prZ (!z) P, prZ (!z) lo, prZ (!z) hi].map ptB)) (ptsOf ([prZ (!z) P, prZ (!z) lo, prZ (!z) hi].map ptB)) = true from sameL_iff.2 rfl) ?_)
      repeat first | refine And.intro rfl ?_ | refine And.intro True.intro ?_ | refine Or.inl (And.intro rfl ?_) | refine Or.inr (And.intro rfl ?_) | refine And.intro (fun (_ : true = true) => ?_) (fun (h : true = false) => Bool.noConfusion h) | refine And.intro (fun (h : false = true) => Bool.noConfusion h) (fun (_ : false = false) => ?_)
      rfl
  · cases h

end Go.Gm
