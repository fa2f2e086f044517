/-
  The statements about curves: CurveDegrees. Plain theorems; no condition.
-/
import Derived.Test.YtihmifpdnipdmaaLawS
set_option linter.all false
namespace Go.Gm
open Go.Proofs



def TE5 : Table := [(69, sPtOn)] ++ TE1
theorem TE5_ok : TabOk TE5 := TabOk.append (TabOk.cons ok_ptOn TabOk.nil) TE1_ok

theorem sh_list (ps : List PR) (h : ∀ p, p ∈ ps → p.Le 300) : ShP 300 (ps.map ptB) := sh_ps h (Nat.le_refl _)
theorem line_mid {a b : Rat × Rat} {h q : Rat} (hh : h = mkRat 1 2) : bez [a, (a.1 + (b.1 - a.1) * h, a.2 + (b.2 - a.2) * h), b] q = (a.1 + (b.1 - a.1) * q, a.2 + (b.2 - a.2) * q) := by
  have h2 : 2 * h = 1 := by rw [hh]; decide +kernel
  show onP (onP a (a.1 + (b.1 - a.1) * h, a.2 + (b.2 - a.2) * h) q) (onP (a.1 + (b.1 - a.1) * h, a.2 + (b.2 - a.2) * h) b q) q = _
  unfold onP
  refine Prod.ext ?_ ?_ <;> simp only <;> grind
theorem raise {a b d : Rat × Rat} {h q : Rat} (hh : h = mkRat 2 3) : bez [a, (a.1 + (b.1 - a.1) * h, a.2 + (b.2 - a.2) * h), (d.1 + (b.1 - d.1) * h, d.2 + (b.2 - d.2) * h), d] q = bez [a, b, d] q := by
  have h2 : 3 * h = 2 := by rw [hh]; decide +kernel
  obtain ⟨m, hm⟩ : ∃ m, m = ((a.1 + (b.1 - a.1) * h, a.2 + (b.2 - a.2) * h) : Rat × Rat) := ⟨_, rfl⟩
  obtain ⟨k, hk⟩ : ∃ k, k = ((d.1 + (b.1 - d.1) * h, d.2 + (b.2 - d.2) * h) : Rat × Rat) := ⟨_, rfl⟩
  rw [← hm, ← hk]
  show onP (onP (onP a m q) (onP m k q) q) (onP (onP m k q) (onP k d q) q) q = onP (onP a b q) (onP b d q) q
  have m1 : m.1 = a.1 + (b.1 - a.1) * h := by rw [hm]
  have m2 : m.2 = a.2 + (b.2 - a.2) * h := by rw [hm]
  have k1 : k.1 = d.1 + (b.1 - d.1) * h := by rw [hk]
  have k2 : k.2 = d.2 + (b.2 - d.2) * h := by rw [hk]
  clear hm hk hh
  unfold onP
  refine Prod.ext ?_ ?_ <;> simp only <;> grind


attribute [local irreducible] sameL bez mkRat rq

def sCurveDegrees : List RV → Option (Prop × Res)
  | [.one (.sl 6 c), .agg [.b (.val (.bool s)), .b (.nat l), .b (.nat t)]] => some (IsP c, .r (.val (.bool true)))
  | _ => none

set_option maxRecDepth 20000 in
set_option maxHeartbeats 8000000 in
theorem ok_CurveDegrees : Ok1 27 sCurveDegrees := by
  refine ok_of TE5_ok Try.func27 rfl (by kernel_rfl) ?_
  intro xs pre res h hp hlim
  unfold sCurveDegrees at h
  split at h
  · rename_i c s l t
    cases h
    have hl : Lim l := hlim.2.1.2.1
    have ht : Lim t := hlim.2.1.2.2.1
    refine And.intro (Nat.le_of_ble_eq_true rfl) ?_
    repeat first | refine And.intro rfl ?_ | refine Or.inl (And.intro rfl ?_) | refine Or.inr (And.intro rfl ?_) | refine And.intro (fun (_ : true = true) => ?_) (fun (h : true = false) => Bool.noConfusion h) | refine And.intro (fun (h : false = true) => Bool.noConfusion h) (fun (_ : false = false) => ?_)
    refine And.intro (show IsP c ∧ (3 : Int) ≤ 1000 from ⟨hp, by decide⟩) ?_
    repeat first | refine And.intro rfl ?_ | refine And.intro True.intro ?_ | refine Or.inl (And.intro rfl ?_) | refine Or.inr (And.intro rfl ?_) | refine And.intro (fun (_ : true = true) => ?_) (fun (h : true = false) => Bool.noConfusion h) | refine And.intro (fun (h : false = true) => Bool.noConfusion h) (fun (_ : false = false) => ?_)
    cases hL : (decide ((c.length : Int) ≤ 3) && (ptsOf c).all (lightPR 3)) with
    | false =>
      refine Or.inr (And.intro rfl ?_)
      repeat first | refine And.intro rfl ?_ | refine And.intro True.intro ?_ | refine Or.inl (And.intro rfl ?_) | refine Or.inr (And.intro rfl ?_) | refine And.intro (fun (_ : true = true) => ?_) (fun (h : true = false) => Bool.noConfusion h) | refine And.intro (fun (h : false = true) => Bool.noConfusion h) (fun (_ : false = false) => ?_)
      rfl
    | true =>
      refine Or.inl (And.intro rfl ?_)
      obtain ⟨h4, ps, rfl, hpl, hps⟩ := light_c (m := 3) (n := 3) hp hL
      rw [← hpl] at h4
      have hlm := lm_of hlim.1
      repeat first | refine And.intro rfl ?_ | refine And.intro True.intro ?_ | refine Or.inl (And.intro rfl ?_) | refine Or.inr (And.intro rfl ?_) | refine And.intro (fun (_ : true = true) => ?_) (fun (h : true = false) => Bool.noConfusion h) | refine And.intro (fun (h : false = true) => Bool.noConfusion h) (fun (_ : false = false) => ?_)
      by_cases hT : (l.length : Int) ≤ 2 ∧ (t.length : Int) ≤ 2
      case neg =>
        refine Or.inr (And.intro (show (!decide ((l.length : Int) ≤ 2 ∧ (t.length : Int) ≤ 2)) = true by simp [hT]) ?_)
        repeat first | refine And.intro rfl ?_ | refine And.intro True.intro ?_ | refine Or.inl (And.intro rfl ?_) | refine Or.inr (And.intro rfl ?_) | refine And.intro (fun (_ : true = true) => ?_) (fun (h : true = false) => Bool.noConfusion h) | refine And.intro (fun (h : false = true) => Bool.noConfusion h) (fun (_ : false = false) => ?_)
        rfl
      refine Or.inl (And.intro (show (!decide ((l.length : Int) ≤ 2 ∧ (t.length : Int) ≤ 2)) = false by simp [hT]) ?_)
      repeat first | refine And.intro rfl ?_ | refine And.intro True.intro ?_ | refine Or.inl (And.intro rfl ?_) | refine Or.inr (And.intro rfl ?_) | refine And.intro (fun (_ : true = true) => ?_) (fun (h : true = false) => Bool.noConfusion h) | refine And.intro (fun (h : false = true) => Bool.noConfusion h) (fun (_ : false = false) => ?_)
      refine And.intro (fun hc => ?_) (fun hc => ?_)
      · repeat first | refine And.intro rfl ?_ | refine And.intro True.intro ?_ | refine Or.inl (And.intro rfl ?_) | refine Or.inr (And.intro rfl ?_) | refine And.intro (fun (_ : true = true) => ?_) (fun (h : true = false) => Bool.noConfusion h) | refine And.intro (fun (h : false = true) => Bool.noConfusion h) (fun (_ : false = false) => ?_)
        rfl
      have h3 : ps.length = 3 := by
        have hc : ((((ps.map ptB).length : Nat) : Int) != 3) = false := hc
        rw [List.length_map] at hc
        simp at hc
        omega
      have hz := Sz.rq (s := s) (n := 2) hl ht (by omega) (by omega)
      have iq : Szc (rq s l t) 3 := ⟨hz⟩
      obtain ⟨p0, p1, p2, rfl⟩ : ∃ p0 p1 p2, ps = [p0, p1, p2] := by
        match ps, h3 with
        | [a, b, c], _ => exact ⟨a, b, c, rfl⟩
      clear hpl h4 h3 hL hp hc
      have lM0 := hlm p0 (by simp)
      have lE0 := (hps p0 (by simp)).mono (show 3 ≤ 300 by decide)
      have lF0 := hps p0 (by simp)
      have lM1 := hlm p1 (by simp)
      have lE1 := (hps p1 (by simp)).mono (show 3 ≤ 300 by decide)
      have lF1 := hps p1 (by simp)
      have lM2 := hlm p2 (by simp)
      have lE2 := (hps p2 (by simp)).mono (show 3 ≤ 300 by decide)
      have lF2 := hps p2 (by simp)
      obtain ⟨s0, l0, t0, z0, k0, u0⟩ := p0
      obtain ⟨s1, l1, t1, z1, k1, u1⟩ := p1
      obtain ⟨s2, l2, t2, z2, k2, u2⟩ := p2
      have iX0 : Szc (rq s0 l0 t0) 4 := ⟨Sz.rq lM0.1 lM0.2.1 lF0.1 lF0.2.1⟩
      have iY0 : Szc (rq z0 k0 u0) 4 := ⟨Sz.rq lM0.2.2.1 lM0.2.2.2 lF0.2.2.1 lF0.2.2.2⟩
      have hl0 : l0.length ≤ 4000 := Nat.le_trans lF0.1 (by decide)
      have ht0 : t0.length ≤ 4000 := Nat.le_trans lF0.2.1 (by decide)
      have hk0 : k0.length ≤ 4000 := Nat.le_trans lF0.2.2.1 (by decide)
      have hu0 : u0.length ≤ 4000 := Nat.le_trans lF0.2.2.2 (by decide)
      have iX1 : Szc (rq s1 l1 t1) 4 := ⟨Sz.rq lM1.1 lM1.2.1 lF1.1 lF1.2.1⟩
      have iY1 : Szc (rq z1 k1 u1) 4 := ⟨Sz.rq lM1.2.2.1 lM1.2.2.2 lF1.2.2.1 lF1.2.2.2⟩
      have hl1 : l1.length ≤ 4000 := Nat.le_trans lF1.1 (by decide)
      have ht1 : t1.length ≤ 4000 := Nat.le_trans lF1.2.1 (by decide)
      have hk1 : k1.length ≤ 4000 := Nat.le_trans lF1.2.2.1 (by decide)
      have hu1 : u1.length ≤ 4000 := Nat.le_trans lF1.2.2.2 (by decide)
      have iX2 : Szc (rq s2 l2 t2) 4 := ⟨Sz.rq lM2.1 lM2.2.1 lF2.1 lF2.2.1⟩
      have iY2 : Szc (rq z2 k2 u2) 4 := ⟨Sz.rq lM2.2.2.1 lM2.2.2.2 lF2.2.2.1 lF2.2.2.2⟩
      have hl2 : l2.length ≤ 4000 := Nat.le_trans lF2.1 (by decide)
      have ht2 : t2.length ≤ 4000 := Nat.le_trans lF2.2.1 (by decide)
      have hk2 : k2.length ≤ 4000 := Nat.le_trans lF2.2.2.1 (by decide)
      have hu2 : u2.length ≤ 4000 := Nat.le_trans lF2.2.2.2 (by decide)
      have hl3 : l.length ≤ 4000 := by omega
      have ht3 : t.length ≤ 4000 := by omega
      have spv : ∀ i : Nat, True := fun _ => trivial
      repeat first | refine And.intro rfl ?_ | refine And.intro True.intro ?_ | refine Or.inl (And.intro rfl ?_) | refine Or.inr (And.intro rfl ?_) | refine And.intro (fun (_ : true = true) => ?_) (fun (h : true = false) => Bool.noConfusion h) | refine And.intro (fun (h : false = true) => Bool.noConfusion h) (fun (_ : false = false) => ?_)
      refine And.intro (show _ ∧ _ ∧ _ ∧ _ ∧ _ ∧ DivFit _ from ⟨by decide, by decide, by decide, by decide, by decide, trivial⟩) ?_
      generalize eha : mkRat (sg _ _) _ = ha
      have vha : ha = (mkRat 1 2) := by rw [← eha]; decide +kernel
      have iha : Szc ha 1 := by rw [vha]; exact ⟨szB (by decide +kernel)⟩
      have qha := rq_cq ha
      repeat first | refine And.intro rfl ?_ | refine And.intro True.intro ?_ | refine Or.inl (And.intro rfl ?_) | refine Or.inr (And.intro rfl ?_) | refine And.intro (fun (_ : true = true) => ?_) (fun (h : true = false) => Bool.noConfusion h) | refine And.intro (fun (h : false = true) => Bool.noConfusion h) (fun (_ : false = false) => ?_)
      refine And.intro (show _ ∧ _ ∧ _ ∧ _ ∧ _ ∧ DivFit _ from ⟨by decide, by decide, by decide, by decide, by decide, trivial⟩) ?_
      generalize eth : mkRat (sg _ _) _ = th
      have vth : th = (mkRat 2 3) := by rw [← eth]; decide +kernel
      have ith : Szc th 1 := by rw [vth]; exact ⟨szB (by decide +kernel)⟩
      have qth := rq_cq th
      repeat first | refine And.intro rfl ?_ | refine And.intro True.intro ?_ | refine Or.inl (And.intro rfl ?_) | refine Or.inr (And.intro rfl ?_) | refine And.intro (fun (_ : true = true) => ?_) (fun (h : true = false) => Bool.noConfusion h) | refine And.intro (fun (h : false = true) => Bool.noConfusion h) (fun (_ : false = false) => ?_)
      refine And.intro (show 0 ≤ (0 : Int) ∧ (0 : Int) < ((3 : Nat) : Int) by decide) ?_
      repeat first | refine And.intro rfl ?_ | refine And.intro True.intro ?_ | refine Or.inl (And.intro rfl ?_) | refine Or.inr (And.intro rfl ?_) | refine And.intro (fun (_ : true = true) => ?_) (fun (h : true = false) => Bool.noConfusion h) | refine And.intro (fun (h : false = true) => Bool.noConfusion h) (fun (_ : false = false) => ?_)
      refine And.intro (show 0 ≤ (1 : Int) ∧ (1 : Int) < ((3 : Nat) : Int) by decide) ?_
      repeat first | refine And.intro rfl ?_ | refine And.intro True.intro ?_ | refine Or.inl (And.intro rfl ?_) | refine Or.inr (And.intro rfl ?_) | refine And.intro (fun (_ : true = true) => ?_) (fun (h : true = false) => Bool.noConfusion h) | refine And.intro (fun (h : false = true) => Bool.noConfusion h) (fun (_ : false = false) => ?_)
      refine And.intro (show 0 ≤ (2 : Int) ∧ (2 : Int) < ((3 : Nat) : Int) by decide) ?_
      repeat first | refine And.intro rfl ?_ | refine And.intro True.intro ?_ | refine Or.inl (And.intro rfl ?_) | refine Or.inr (And.intro rfl ?_) | refine And.intro (fun (_ : true = true) => ?_) (fun (h : true = false) => Bool.noConfusion h) | refine And.intro (fun (h : false = true) => Bool.noConfusion h) (fun (_ : false = false) => ?_)
      have shP : ShP 300 (([⟨s0, l0, t0, z0, k0, u0⟩, ⟨s1, l1, t1, z1, k1, u1⟩] : List PR).map ptB) := sh_list [⟨s0, l0, t0, z0, k0, u0⟩, ⟨s1, l1, t1, z1, k1, u1⟩] (by
        intro p hp
        simp only [List.mem_cons, List.not_mem_nil, or_false] at hp
        rcases hp with rfl | rfl
        · exact lE0
        · exact lE1)
      refine And.intro (show ShP 300 (([⟨s0, l0, t0, z0, k0, u0⟩, ⟨s1, l1, t1, z1, k1, u1⟩] : List PR).map ptB) ∧ l.length ≤ 300 ∧ t.length ≤ 300 from ⟨shP, by omega, by omega⟩) ?_
      generalize eoP : okC _ = oo
      obtain rfl : oo = true := by rw [← eoP]; rfl
      generalize eP : bez (valsOf _) _ = P
      have vP : P = (rq s0 l0 t0 + (rq s1 l1 t1 - rq s0 l0 t0) * rq s l t, rq z0 k0 u0 + (rq z1 k1 u1 - rq z0 k0 u0) * rq s l t) := by rw [← eP]; unfold bez; rfl
      have sP : Sp 300 P := by rw [vP]; exact ((show Sp 40 _ from ⟨(iX0.sz.add ((iX1.sz.sub iX0.sz).mul hz)).mono (by decide), (iY0.sz.add ((iY1.sz.sub iY0.sz).mul hz)).mono (by decide)⟩)).mono (by decide +kernel)
      repeat first | refine And.intro rfl ?_ | refine And.intro True.intro ?_ | refine Or.inl (And.intro rfl ?_) | refine Or.inr (And.intro rfl ?_) | refine And.intro (fun (_ : true = true) => ?_) (fun (h : true = false) => Bool.noConfusion h) | refine And.intro (fun (h : false = true) => Bool.noConfusion h) (fun (_ : false = false) => ?_)
      refine And.intro ?pre ?_
      case pre =>
        repeat' refine And.intro ?_ ?_
        all_goals first | exact lenN_of (by decide) | exact lenD_of (by decide) | assumption | exact trivial | exact Nat.zero_le _ | omega
      rw [qha]
      have imA := (inferInstance : Szc (rq s0 l0 t0 + (rq s1 l1 t1 - rq s0 l0 t0) * ha) _)
      have imB := (inferInstance : Szc (rq z0 k0 u0 + (rq z1 k1 u1 - rq z0 k0 u0) * ha) _)
      generalize emA : rq s0 l0 t0 + (rq s1 l1 t1 - rq s0 l0 t0) * ha = mA
      generalize emB : rq z0 k0 u0 + (rq z1 k1 u1 - rq z0 k0 u0) * ha = mB
      rw [emA] at imA
      rw [emB] at imB
      have qmA := rq_cq mA
      have qmB := rq_cq mB
      repeat first | refine And.intro rfl ?_ | refine And.intro True.intro ?_ | refine Or.inl (And.intro rfl ?_) | refine Or.inr (And.intro rfl ?_) | refine And.intro (fun (_ : true = true) => ?_) (fun (h : true = false) => Bool.noConfusion h) | refine And.intro (fun (h : false = true) => Bool.noConfusion h) (fun (_ : false = false) => ?_)
      have lm : (prQ (mA, mB)).Le 300 := prQ_le (n := 20) ⟨imA.sz.mono (by decide), imB.sz.mono (by decide)⟩ (by decide)
      have shQ : ShP 300 (([⟨s0, l0, t0, z0, k0, u0⟩, prQ (mA, mB), ⟨s1, l1, t1, z1, k1, u1⟩] : List PR).map ptB) := sh_list [⟨s0, l0, t0, z0, k0, u0⟩, prQ (mA, mB), ⟨s1, l1, t1, z1, k1, u1⟩] (by
        intro p hp
        simp only [List.mem_cons, List.not_mem_nil, or_false] at hp
        rcases hp with rfl | rfl | rfl
        · exact lE0
        · exact lm
        · exact lE1)
      refine And.intro (show ShP 300 (([⟨s0, l0, t0, z0, k0, u0⟩, prQ (mA, mB), ⟨s1, l1, t1, z1, k1, u1⟩] : List PR).map ptB) ∧ l.length ≤ 300 ∧ t.length ≤ 300 from ⟨shQ, by omega, by omega⟩) ?_
      generalize eoQ : okC _ = oo
      obtain rfl : oo = true := by rw [← eoQ]; rfl
      generalize eQ : bez (valsOf _) _ = Q
      have vQ : Q = (rq s0 l0 t0 + (rq s1 l1 t1 - rq s0 l0 t0) * rq s l t, rq z0 k0 u0 + (rq z1 k1 u1 - rq z0 k0 u0) * rq s l t) := by rw [← eQ]; show bez [(rq s0 l0 t0, rq z0 k0 u0), (prQ (mA, mB)).v, (rq s1 l1 t1, rq z1 k1 u1)] (rq s l t) = _; rw [prQ_v, ← emA, ← emB]; exact line_mid (a := (rq s0 l0 t0, rq z0 k0 u0)) (b := (rq s1 l1 t1, rq z1 k1 u1)) vha
      have sQ : Sp 300 Q := by rw [vQ]; exact ((show Sp 40 _ from ⟨(iX0.sz.add ((iX1.sz.sub iX0.sz).mul hz)).mono (by decide), (iY0.sz.add ((iY1.sz.sub iY0.sz).mul hz)).mono (by decide)⟩)).mono (by decide +kernel)
      repeat first | refine And.intro rfl ?_ | refine And.intro True.intro ?_ | refine Or.inl (And.intro rfl ?_) | refine Or.inr (And.intro rfl ?_) | refine And.intro (fun (_ : true = true) => ?_) (fun (h : true = false) => Bool.noConfusion h) | refine And.intro (fun (h : false = true) => Bool.noConfusion h) (fun (_ : false = false) => ?_)
      have shC : ShP 300 (([⟨s0, l0, t0, z0, k0, u0⟩, ⟨s1, l1, t1, z1, k1, u1⟩, ⟨s2, l2, t2, z2, k2, u2⟩] : List PR).map ptB) := sh_list [⟨s0, l0, t0, z0, k0, u0⟩, ⟨s1, l1, t1, z1, k1, u1⟩, ⟨s2, l2, t2, z2, k2, u2⟩] (by
        intro p hp
        simp only [List.mem_cons, List.not_mem_nil, or_false] at hp
        rcases hp with rfl | rfl | rfl
        · exact lE0
        · exact lE1
        · exact lE2)
      have svs : ∀ p, p ∈ ([(rq s0 l0 t0, rq z0 k0 u0), (rq s1 l1 t1, rq z1 k1 u1), (rq s2 l2 t2, rq z2 k2 u2)] : List (Rat × Rat)) → Sp 4 p := by
        intro p hp
        simp only [List.mem_cons, List.not_mem_nil, or_false] at hp
        rcases hp with rfl | rfl | rfl
        · exact ⟨iX0.sz, iY0.sz⟩
        · exact ⟨iX1.sz, iY1.sz⟩
        · exact ⟨iX2.sz, iY2.sz⟩
      refine And.intro (show ShP 300 (([⟨s0, l0, t0, z0, k0, u0⟩, ⟨s1, l1, t1, z1, k1, u1⟩, ⟨s2, l2, t2, z2, k2, u2⟩] : List PR).map ptB) ∧ l.length ≤ 300 ∧ t.length ≤ 300 from ⟨shC, by omega, by omega⟩) ?_
      generalize eoC : okC _ = oo
      obtain rfl : oo = true := by rw [← eoC]; rfl
      generalize eC : bez (valsOf _) _ = C
      have vC : C = bez [(rq s0 l0 t0, rq z0 k0 u0), (rq s1 l1 t1, rq z1 k1 u1), (rq s2 l2 t2, rq z2 k2 u2)] (rq s l t) := by rw [← eC]; rfl
      have sC : Sp 300 C := by rw [vC]; exact (bez_sp3 hz (show 2 ≤ [(rq s0 l0 t0, rq z0 k0 u0), (rq s1 l1 t1, rq z1 k1 u1), (rq s2 l2 t2, rq z2 k2 u2)].length from Nat.le_of_ble_eq_true rfl) (show [(rq s0 l0 t0, rq z0 k0 u0), (rq s1 l1 t1, rq z1 k1 u1), (rq s2 l2 t2, rq z2 k2 u2)].length ≤ 4 from Nat.le_of_ble_eq_true rfl) (n := 4) svs).mono (by decide +kernel)
      repeat first | refine And.intro rfl ?_ | refine And.intro True.intro ?_ | refine Or.inl (And.intro rfl ?_) | refine Or.inr (And.intro rfl ?_) | refine And.intro (fun (_ : true = true) => ?_) (fun (h : true = false) => Bool.noConfusion h) | refine And.intro (fun (h : false = true) => Bool.noConfusion h) (fun (_ : false = false) => ?_)
      refine And.intro ?pre ?_
      case pre =>
        repeat' refine And.intro ?_ ?_
        all_goals first | exact lenN_of (by decide) | exact lenD_of (by decide) | assumption | exact trivial | exact Nat.zero_le _ | omega
      rw [qth]
      have ifA := (inferInstance : Szc (rq s0 l0 t0 + (rq s1 l1 t1 - rq s0 l0 t0) * th) _)
      have ifB := (inferInstance : Szc (rq z0 k0 u0 + (rq z1 k1 u1 - rq z0 k0 u0) * th) _)
      generalize efA : rq s0 l0 t0 + (rq s1 l1 t1 - rq s0 l0 t0) * th = fA
      generalize efB : rq z0 k0 u0 + (rq z1 k1 u1 - rq z0 k0 u0) * th = fB
      rw [efA] at ifA
      rw [efB] at ifB
      have qfA := rq_cq fA
      have qfB := rq_cq fB
      repeat first | refine And.intro rfl ?_ | refine And.intro True.intro ?_ | refine Or.inl (And.intro rfl ?_) | refine Or.inr (And.intro rfl ?_) | refine And.intro (fun (_ : true = true) => ?_) (fun (h : true = false) => Bool.noConfusion h) | refine And.intro (fun (h : false = true) => Bool.noConfusion h) (fun (_ : false = false) => ?_)
      refine And.intro ?pre ?_
      case pre =>
        repeat' refine And.intro ?_ ?_
        all_goals first | exact lenN_of (by decide) | exact lenD_of (by decide) | assumption | exact trivial | exact Nat.zero_le _ | omega
      rw [qth]
      have igA := (inferInstance : Szc (rq s2 l2 t2 + (rq s1 l1 t1 - rq s2 l2 t2) * th) _)
      have igB := (inferInstance : Szc (rq z2 k2 u2 + (rq z1 k1 u1 - rq z2 k2 u2) * th) _)
      generalize egA : rq s2 l2 t2 + (rq s1 l1 t1 - rq s2 l2 t2) * th = gA
      generalize egB : rq z2 k2 u2 + (rq z1 k1 u1 - rq z2 k2 u2) * th = gB
      rw [egA] at igA
      rw [egB] at igB
      have qgA := rq_cq gA
      have qgB := rq_cq gB
      repeat first | refine And.intro rfl ?_ | refine And.intro True.intro ?_ | refine Or.inl (And.intro rfl ?_) | refine Or.inr (And.intro rfl ?_) | refine And.intro (fun (_ : true = true) => ?_) (fun (h : true = false) => Bool.noConfusion h) | refine And.intro (fun (h : false = true) => Bool.noConfusion h) (fun (_ : false = false) => ?_)
      have lf : (prQ (fA, fB)).Le 300 := prQ_le (n := 20) ⟨ifA.sz.mono (by decide), ifB.sz.mono (by decide)⟩ (by decide)
      have lg : (prQ (gA, gB)).Le 300 := prQ_le (n := 20) ⟨igA.sz.mono (by decide), igB.sz.mono (by decide)⟩ (by decide)
      have shD : ShP 300 (([⟨s0, l0, t0, z0, k0, u0⟩, prQ (fA, fB), prQ (gA, gB), ⟨s2, l2, t2, z2, k2, u2⟩] : List PR).map ptB) := sh_list [⟨s0, l0, t0, z0, k0, u0⟩, prQ (fA, fB), prQ (gA, gB), ⟨s2, l2, t2, z2, k2, u2⟩] (by
        intro p hp
        simp only [List.mem_cons, List.not_mem_nil, or_false] at hp
        rcases hp with rfl | rfl | rfl | rfl
        · exact lE0
        · exact lf
        · exact lg
        · exact lE2)
      refine And.intro (show ShP 300 (([⟨s0, l0, t0, z0, k0, u0⟩, prQ (fA, fB), prQ (gA, gB), ⟨s2, l2, t2, z2, k2, u2⟩] : List PR).map ptB) ∧ l.length ≤ 300 ∧ t.length ≤ 300 from ⟨shD, by omega, by omega⟩) ?_
      generalize eoD : okC _ = oo
      obtain rfl : oo = true := by rw [← eoD]; rfl
      generalize eD : bez (valsOf _) _ = D
      have vD : D = bez [(rq s0 l0 t0, rq z0 k0 u0), (rq s1 l1 t1, rq z1 k1 u1), (rq s2 l2 t2, rq z2 k2 u2)] (rq s l t) := by rw [← eD]; show bez [(rq s0 l0 t0, rq z0 k0 u0), (prQ (fA, fB)).v, (prQ (gA, gB)).v, (rq s2 l2 t2, rq z2 k2 u2)] (rq s l t) = _; rw [prQ_v, prQ_v, ← efA, ← efB, ← egA, ← egB]; exact raise (a := (rq s0 l0 t0, rq z0 k0 u0)) (b := (rq s1 l1 t1, rq z1 k1 u1)) (d := (rq s2 l2 t2, rq z2 k2 u2)) vth
      have sD : Sp 300 D := by rw [vD]; exact (bez_sp3 hz (show 2 ≤ [(rq s0 l0 t0, rq z0 k0 u0), (rq s1 l1 t1, rq z1 k1 u1), (rq s2 l2 t2, rq z2 k2 u2)].length from Nat.le_of_ble_eq_true rfl) (show [(rq s0 l0 t0, rq z0 k0 u0), (rq s1 l1 t1, rq z1 k1 u1), (rq s2 l2 t2, rq z2 k2 u2)].length ≤ 4 from Nat.le_of_ble_eq_true rfl) (n := 4) svs).mono (by decide +kernel)
      repeat first | refine And.intro rfl ?_ | refine And.intro True.intro ?_ | refine Or.inl (And.intro rfl ?_) | refine Or.inr (And.intro rfl ?_) | refine And.intro (fun (_ : true = true) => ?_) (fun (h : true = false) => Bool.noConfusion h) | refine And.intro (fun (h : false = true) => Bool.noConfusion h) (fun (_ : false = false) => ?_)
      refine And.intro ?pre ?_
      case pre =>
        repeat' refine And.intro ?_ ?_
        all_goals first | exact lenN_of (by decide) | exact lenD_of (by decide) | assumption | exact trivial | exact Nat.zero_le _ | omega

      have iwA := (inferInstance : Szc (rq s0 l0 t0 + (rq s1 l1 t1 - rq s0 l0 t0) * rq s l t) _)
      have iwB := (inferInstance : Szc (rq z0 k0 u0 + (rq z1 k1 u1 - rq z0 k0 u0) * rq s l t) _)
      generalize ewA : rq s0 l0 t0 + (rq s1 l1 t1 - rq s0 l0 t0) * rq s l t = wA
      generalize ewB : rq z0 k0 u0 + (rq z1 k1 u1 - rq z0 k0 u0) * rq s l t = wB
      rw [ewA] at iwA
      rw [ewB] at iwB
      have qwA := rq_cq wA
      have qwB := rq_cq wB
      repeat first | refine And.intro rfl ?_ | refine And.intro True.intro ?_ | refine Or.inl (And.intro rfl ?_) | refine Or.inr (And.intro rfl ?_) | refine And.intro (fun (_ : true = true) => ?_) (fun (h : true = false) => Bool.noConfusion h) | refine And.intro (fun (h : false = true) => Bool.noConfusion h) (fun (_ : false = false) => ?_)
      refine And.intro (And.intro (show ShP 1000000 (nB [P]) from sh_nB (fun p hp => by simp only [List.mem_singleton] at hp; rw [hp]; exact sP) (by decide)) (And.intro (isP_B (nrm [(wA, wB)])) (show (nB [P]).length ≤ 1000 by rw [nB_len]; exact Nat.le_of_ble_eq_true rfl))) ?_
      repeat first | refine And.intro rfl ?_ | refine And.intro True.intro ?_ | refine Or.inl (And.intro rfl ?_) | refine Or.inr (And.intro rfl ?_) | refine And.intro (fun (_ : true = true) => ?_) (fun (h : true = false) => Bool.noConfusion h) | refine And.intro (fun (h : false = true) => Bool.noConfusion h) (fun (_ : false = false) => ?_)
      refine Or.inl (And.intro (same_nB (L := [P]) (M := [(wA, wB)]) (by rw [vP, ← ewA, ← ewB])) ?_)
      repeat first | refine And.intro rfl ?_ | refine And.intro True.intro ?_ | refine Or.inl (And.intro rfl ?_) | refine Or.inr (And.intro rfl ?_) | refine And.intro (fun (_ : true = true) => ?_) (fun (h : true = false) => Bool.noConfusion h) | refine And.intro (fun (h : false = true) => Bool.noConfusion h) (fun (_ : false = false) => ?_)
      refine And.intro (And.intro (show ShP 1000000 (nB [P]) from sh_nB (fun p hp => by simp only [List.mem_singleton] at hp; rw [hp]; exact sP) (by decide)) (And.intro (isP_B (nrm [Q])) (show (nB [P]).length ≤ 1000 by rw [nB_len]; exact Nat.le_of_ble_eq_true rfl))) ?_
      repeat first | refine And.intro rfl ?_ | refine And.intro True.intro ?_ | refine Or.inl (And.intro rfl ?_) | refine Or.inr (And.intro rfl ?_) | refine And.intro (fun (_ : true = true) => ?_) (fun (h : true = false) => Bool.noConfusion h) | refine And.intro (fun (h : false = true) => Bool.noConfusion h) (fun (_ : false = false) => ?_)
      refine Or.inl (And.intro (same_nB (L := [P]) (M := [Q]) (by rw [vP, vQ])) ?_)
      repeat first | refine And.intro rfl ?_ | refine And.intro True.intro ?_ | refine Or.inl (And.intro rfl ?_) | refine Or.inr (And.intro rfl ?_) | refine And.intro (fun (_ : true = true) => ?_) (fun (h : true = false) => Bool.noConfusion h) | refine And.intro (fun (h : false = true) => Bool.noConfusion h) (fun (_ : false = false) => ?_)
      refine And.intro (And.intro (show ShP 1000000 (nB [C]) from sh_nB (fun p hp => by simp only [List.mem_singleton] at hp; rw [hp]; exact sC) (by decide)) (And.intro (isP_B (nrm [D])) (show (nB [C]).length ≤ 1000 by rw [nB_len]; exact Nat.le_of_ble_eq_true rfl))) ?_
      repeat first | refine And.intro rfl ?_ | refine And.intro True.intro ?_ | refine Or.inl (And.intro rfl ?_) | refine Or.inr (And.intro rfl ?_) | refine And.intro (fun (_ : true = true) => ?_) (fun (h : true = false) => Bool.noConfusion h) | refine And.intro (fun (h : false = true) => Bool.noConfusion h) (fun (_ : false = false) => ?_)
      refine Or.inl (And.intro (same_nB (L := [C]) (M := [D]) (by rw [vC, vD])) ?_)
      repeat first | refine And.intro rfl ?_ | refine And.intro True.intro ?_ | refine Or.inl (And.intro rfl ?_) | refine Or.inr (And.intro rfl ?_) | refine And.intro (fun (_ : true = true) => ?_) (fun (h : true = false) => Bool.noConfusion h) | refine And.intro (fun (h : false = true) => Bool.noConfusion h) (fun (_ : false = false) => ?_)
      rfl
  · cases h

end Go.Gm
