/-
  The statements about curves, part E: CurveEnds. Plain theorems; no condition.
-/
import Derived.Test.YtihmifpdnipdmaaLawD
import Derived.Test.YtihmifpdnipdmaaCurveL
set_option linter.all false
namespace Go.Gm
open Go.Proofs

def TE1 : Table := (50, sTrue0) :: TE0
theorem TE1_ok : TabOk TE1 := TabOk.cons ok_example09 TE0_ok

/-- What the guard of a curve law gives. -/
theorem light_c {c : List (List BV)} {m n : Nat} (hc : IsP c) (h : (decide ((c.length : Int) ≤ ((m : Nat) : Int)) && (ptsOf c).all (lightPR ((n : Nat) : Int))) = true) : c.length ≤ m ∧ ∃ ps : List PR, c = ps.map ptB ∧ ps.length = c.length ∧ ∀ p, p ∈ ps → p.Le n := by
  simp only [Bool.and_eq_true, decide_eq_true_eq, List.all_eq_true] at h
  exact ⟨by omega, ptsOf c, hc, List.length_map _, fun p hp => lightPR_le (h.2 p hp)⟩
theorem sp_vals {n : Nat} {ps : List PR} (hlm : ∀ p, p ∈ ps → p.Lm) (hle : ∀ p, p ∈ ps → p.Le n) : ∀ q, q ∈ ps.map PR.v → Sp (n + 1) q := by
  intro q hq
  obtain ⟨p, hp, rfl⟩ := List.mem_map.1 hq
  exact PR.sp (hlm p hp) (hle p hp)
theorem sh_ps {n m : Nat} {ps : List PR} (hle : ∀ p, p ∈ ps → p.Le n) (hm : n ≤ m) : ShP m (ps.map ptB) := ⟨isP_B _, by rw [ptsOf_B]; exact fun p hp => (hle p hp).mono hm⟩
theorem okC_ps {ps : List PR} (h2 : 2 ≤ ps.length) (h4 : ps.length ≤ 4) : okC (ps.map ptB) = true := by unfold okC; rw [List.length_map]; exact decide_eq_true ⟨h2, h4⟩

def sCurveEnds : List RV → Option (Prop × Res)
  | [.one (.sl 6 c), .agg [.b (.val (.bool s)), .b (.nat l), .b (.nat t)]] => some (IsP c, .r (.val (.bool true)))
  | _ => none

attribute [local irreducible] sameL bez mkRat rq

/-- A point in normal form, and one that stands for the same. -/
theorem same_pt {P : Rat × Rat} {p : PR} (h : P = p.v) : decide (rq (decide (P.1.num < 0)) (dg P.1.num.natAbs) (dg P.1.den) = rq p.s p.l p.t ∧ rq (decide (P.2.num < 0)) (dg P.2.num.natAbs) (dg P.2.den) = rq p.z p.k p.u) = true := by
  refine decide_eq_true ⟨?_, ?_⟩
  · rw [rq_cq, h]; rfl
  · rw [rq_cq, h]; rfl


set_option maxHeartbeats 2000000 in
theorem ok_CurveEnds : Ok1 9 sCurveEnds := by
  refine ok_of TE1_ok Try.func9 rfl (by kernel_rfl) ?_
  intro xs pre res h hp hlim
  unfold sCurveEnds at h
  split at h
  · rename_i c s l t
    cases h
    have hl : Lim l := hlim.2.1.2.1
    have ht : Lim t := hlim.2.1.2.2.1
    refine And.intro (Nat.le_of_ble_eq_true rfl) ?_
    repeat first | refine And.intro rfl ?_ | refine Or.inl (And.intro rfl ?_) | refine Or.inr (And.intro rfl ?_) | refine And.intro (fun (_ : true = true) => ?_) (fun (h : true = false) => Bool.noConfusion h) | refine And.intro (fun (h : false = true) => Bool.noConfusion h) (fun (_ : false = false) => ?_)
    refine And.intro (show IsP c ∧ (4 : Int) ≤ 1000 from ⟨hp, by decide⟩) ?_
    repeat first | refine And.intro rfl ?_ | refine And.intro True.intro ?_ | refine Or.inl (And.intro rfl ?_) | refine Or.inr (And.intro rfl ?_) | refine And.intro (fun (_ : true = true) => ?_) (fun (h : true = false) => Bool.noConfusion h) | refine And.intro (fun (h : false = true) => Bool.noConfusion h) (fun (_ : false = false) => ?_)
    cases hL : (decide ((c.length : Int) ≤ 4) && (ptsOf c).all (lightPR 4)) with
    | false =>
      refine Or.inr (And.intro rfl ?_)
      repeat first | refine And.intro rfl ?_ | refine And.intro True.intro ?_ | refine Or.inl (And.intro rfl ?_) | refine Or.inr (And.intro rfl ?_) | refine And.intro (fun (_ : true = true) => ?_) (fun (h : true = false) => Bool.noConfusion h) | refine And.intro (fun (h : false = true) => Bool.noConfusion h) (fun (_ : false = false) => ?_)
      rfl
    | true =>
      refine Or.inl (And.intro rfl ?_)
      obtain ⟨h4, ps, rfl, hpl, hps⟩ := light_c (m := 4) (n := 4) hp hL
      rw [← hpl] at h4
      have hlm := lm_of hlim.1
      repeat first | refine And.intro rfl ?_ | refine And.intro True.intro ?_ | refine Or.inl (And.intro rfl ?_) | refine Or.inr (And.intro rfl ?_) | refine And.intro (fun (_ : true = true) => ?_) (fun (h : true = false) => Bool.noConfusion h) | refine And.intro (fun (h : false = true) => Bool.noConfusion h) (fun (_ : false = false) => ?_)
      by_cases hT : (l.length : Int) ≤ 3 ∧ (t.length : Int) ≤ 3
      case neg =>
        refine Or.inr (And.intro (show (!decide ((l.length : Int) ≤ 3 ∧ (t.length : Int) ≤ 3)) = true by simp [hT]) ?_)
        repeat first | refine And.intro rfl ?_ | refine And.intro True.intro ?_ | refine Or.inl (And.intro rfl ?_) | refine Or.inr (And.intro rfl ?_) | refine And.intro (fun (_ : true = true) => ?_) (fun (h : true = false) => Bool.noConfusion h) | refine And.intro (fun (h : false = true) => Bool.noConfusion h) (fun (_ : false = false) => ?_)
        rfl
      refine Or.inl (And.intro (show (!decide ((l.length : Int) ≤ 3 ∧ (t.length : Int) ≤ 3)) = false by simp [hT]) ?_)
      repeat first | refine And.intro rfl ?_ | refine And.intro True.intro ?_ | refine Or.inl (And.intro rfl ?_) | refine Or.inr (And.intro rfl ?_) | refine And.intro (fun (_ : true = true) => ?_) (fun (h : true = false) => Bool.noConfusion h) | refine And.intro (fun (h : false = true) => Bool.noConfusion h) (fun (_ : false = false) => ?_)
      refine And.intro (fun hc => ?_) (fun hc => ?_)
      · repeat first | refine And.intro rfl ?_ | refine And.intro True.intro ?_ | refine Or.inl (And.intro rfl ?_) | refine Or.inr (And.intro rfl ?_) | refine And.intro (fun (_ : true = true) => ?_) (fun (h : true = false) => Bool.noConfusion h) | refine And.intro (fun (h : false = true) => Bool.noConfusion h) (fun (_ : false = false) => ?_)
        rfl
      have h2 : 2 ≤ ps.length := by
        have hc : ¬ (((ps.map ptB).length : Nat) : Int) < 2 := of_decide_eq_false hc
        rw [List.length_map] at hc
        omega
      have oc := okC_ps h2 h4
      have vc := valsOf_B ps
      have svs := sp_vals hlm hps
      have hz := Sz.rq (s := s) (n := 3) hl ht (by omega) (by omega)
      obtain ⟨q, hq⟩ : ∃ q, q = rq s l t := ⟨_, rfl⟩
      rw [← hq] at hz
      obtain ⟨vs, hvs⟩ : ∃ vs, vs = ps.map PR.v := ⟨_, rfl⟩
      have hvl : vs.length = ps.length := by rw [hvs, List.length_map]
      rw [← hvs] at vc svs
      have v2 : 2 ≤ vs.length := by omega
      have v4 : vs.length ≤ 4 := by omega
      have r2 : 2 ≤ vs.reverse.length := by rw [List.length_reverse]; omega
      have r4 : vs.reverse.length ≤ 4 := by rw [List.length_reverse]; omega
      have srs : ∀ p, p ∈ vs.reverse → Sp 5 p := fun p hp => svs p (List.mem_reverse.1 hp)
      have or_ : okC (nB vs.reverse) = true := by rw [ok_nB]; exact decide_eq_true ⟨r2, r4⟩
      have vr := vals_nB vs.reverse
      repeat first | refine And.intro rfl ?_ | refine And.intro True.intro ?_ | refine Or.inl (And.intro rfl ?_) | refine Or.inr (And.intro rfl ?_) | refine And.intro (fun (_ : true = true) => ?_) (fun (h : true = false) => Bool.noConfusion h) | refine And.intro (fun (h : false = true) => Bool.noConfusion h) (fun (_ : false = false) => ?_)
      refine And.intro (show _ ∧ _ ∧ _ ∧ _ ∧ _ ∧ DivFit _ from ⟨by decide, by decide, by decide, by decide, by decide, trivial⟩) ?_
      generalize ezr : mkRat (sg _ _) _ = zr
      have vzr : zr = 0 := by rw [← ezr]; decide +kernel
      have zzr : Sz 1 zr := by rw [vzr]; exact szB (by decide +kernel)
      have qzr := rq_cq zr
      repeat first | refine And.intro rfl ?_ | refine And.intro True.intro ?_ | refine Or.inl (And.intro rfl ?_) | refine Or.inr (And.intro rfl ?_) | refine And.intro (fun (_ : true = true) => ?_) (fun (h : true = false) => Bool.noConfusion h) | refine And.intro (fun (h : false = true) => Bool.noConfusion h) (fun (_ : false = false) => ?_)
      refine And.intro (show _ ∧ _ ∧ _ ∧ _ ∧ _ ∧ DivFit _ from ⟨by decide, by decide, by decide, by decide, by decide, trivial⟩) ?_
      generalize eun : mkRat (sg _ _) _ = un
      have vun : un = 1 := by rw [← eun]; decide +kernel
      have zun : Sz 1 un := by rw [vun]; exact szB (by decide +kernel)
      have qun := rq_cq un
      repeat first | refine And.intro rfl ?_ | refine And.intro True.intro ?_ | refine Or.inl (And.intro rfl ?_) | refine Or.inr (And.intro rfl ?_) | refine And.intro (fun (_ : true = true) => ?_) (fun (h : true = false) => Bool.noConfusion h) | refine And.intro (fun (h : false = true) => Bool.noConfusion h) (fun (_ : false = false) => ?_)
      refine And.intro (And.intro (sh_ps hps (by decide)) (show (ps.map ptB).length ≤ 1000 by rw [List.length_map]; omega)) ?_
      rw [vc]
      repeat first | refine And.intro rfl ?_ | refine And.intro True.intro ?_ | refine Or.inl (And.intro rfl ?_) | refine Or.inr (And.intro rfl ?_) | refine And.intro (fun (_ : true = true) => ?_) (fun (h : true = false) => Bool.noConfusion h) | refine And.intro (fun (h : false = true) => Bool.noConfusion h) (fun (_ : false = false) => ?_)
      refine And.intro (And.intro (sh_ps hps (by decide)) (And.intro (zzr.lenN (by decide)) (zzr.lenD (by decide)))) ?_
      rw [oc, vc, qzr]
      generalize eP : bez vs _ = P
      have sP : Sp 187 P := by rw [← eP]; exact (bez_sp3 zzr v2 v4 svs).mono (by decide +kernel)
      repeat first | refine And.intro rfl ?_ | refine And.intro True.intro ?_ | refine Or.inl (And.intro rfl ?_) | refine Or.inr (And.intro rfl ?_) | refine And.intro (fun (_ : true = true) => ?_) (fun (h : true = false) => Bool.noConfusion h) | refine And.intro (fun (h : false = true) => Bool.noConfusion h) (fun (_ : false = false) => ?_)
      refine And.intro (And.intro (sh_ps hps (by decide)) (And.intro (zun.lenN (by decide)) (zun.lenD (by decide)))) ?_
      rw [oc, vc, qun]
      generalize eQ : bez vs _ = Q
      have sQ : Sp 187 Q := by rw [← eQ]; exact (bez_sp3 zun v2 v4 svs).mono (by decide +kernel)
      repeat first | refine And.intro rfl ?_ | refine And.intro True.intro ?_ | refine Or.inl (And.intro rfl ?_) | refine Or.inr (And.intro rfl ?_) | refine And.intro (fun (_ : true = true) => ?_) (fun (h : true = false) => Bool.noConfusion h) | refine And.intro (fun (h : false = true) => Bool.noConfusion h) (fun (_ : false = false) => ?_)
      refine And.intro (And.intro (sh_nB srs (by decide)) (And.intro (show l.length ≤ 300 by omega) (show t.length ≤ 300 by omega))) ?_
      rw [or_, vr, ← hq]
      generalize eX : bez vs.reverse q = X
      have sX : Sp 226 X := by rw [← eX]; exact (bez_sp3 hz r2 r4 srs).mono (by decide +kernel)
      repeat first | refine And.intro rfl ?_ | refine And.intro True.intro ?_ | refine Or.inl (And.intro rfl ?_) | refine Or.inr (And.intro rfl ?_) | refine And.intro (fun (_ : true = true) => ?_) (fun (h : true = false) => Bool.noConfusion h) | refine And.intro (fun (h : false = true) => Bool.noConfusion h) (fun (_ : false = false) => ?_)
      refine And.intro (And.intro (zun.lenN (by decide)) (And.intro (zun.lenD (by decide)) (And.intro (show l.length ≤ 39999 by omega) (show t.length ≤ 39999 by omega)))) ?_
      rw [qun, ← hq]
      generalize ew : un - q = w
      have zw : Sz 6 w := by rw [← ew]; exact (zun.sub hz).mono (by decide)
      have qw := rq_cq w
      repeat first | refine And.intro rfl ?_ | refine And.intro True.intro ?_ | refine Or.inl (And.intro rfl ?_) | refine Or.inr (And.intro rfl ?_) | refine And.intro (fun (_ : true = true) => ?_) (fun (h : true = false) => Bool.noConfusion h) | refine And.intro (fun (h : false = true) => Bool.noConfusion h) (fun (_ : false = false) => ?_)
      refine And.intro (And.intro (sh_ps hps (by decide)) (And.intro (zw.lenN (by decide)) (zw.lenD (by decide)))) ?_
      rw [oc, vc, qw]
      generalize eY : bez vs _ = Y
      have sY : Sp 252 Y := by rw [← eY]; exact (bez_sp3 zw v2 v4 svs).mono (by decide +kernel)
      repeat first | refine And.intro rfl ?_ | refine And.intro True.intro ?_ | refine Or.inl (And.intro rfl ?_) | refine Or.inr (And.intro rfl ?_) | refine And.intro (fun (_ : true = true) => ?_) (fun (h : true = false) => Bool.noConfusion h) | refine And.intro (fun (h : false = true) => Bool.noConfusion h) (fun (_ : false = false) => ?_)
      refine And.intro (fun hc => ?_) (fun hc => ?_)
      · exfalso
        have hc : ((((nB vs.reverse).length : Nat) : Int) != (((ps.map ptB).length : Nat) : Int)) = true := hc
        rw [nB_len, List.length_reverse, List.length_map, hvl] at hc
        simp at hc
      have g0 : (ps.map ptB).getD (0 : Int).toNat [] = ptB (ps.getD 0 PR.zero) := getD_ptB ps 0 (by omega)
      have hw : IntKind.i64.wrap ((((ps.map ptB).length : Nat) : Int) - 1) = ((ps.length - 1 : Nat) : Int) := by rw [List.length_map, wI (by omega) (by omega)]; omega
      have gl : (ps.map ptB).getD (ps.length - 1) [] = ptB (ps.getD (ps.length - 1) PR.zero) := getD_ptB ps _ (by omega)
      have hP : P = (ps.getD 0 PR.zero).v := by rw [← eP, vzr, bez_zero v2 v4, hvs, ← hd_of (by omega)]
      have hQ : Q = (ps.getD (ps.length - 1) PR.zero).v := by rw [← eQ, vun, bez_one v2 v4, hvs, ← ls_of (by omega)]
      have hXY : X = Y := by rw [← eX, ← eY, bez_rev v2 v4, ← ew, vun]
      have k0 := (hps _ (getD_mem' ps 0 PR.zero (by omega))).mono (show 4 ≤ 40000 by decide)
      have kl := (hps _ (getD_mem' ps (ps.length - 1) PR.zero (by omega))).mono (show 4 ≤ 40000 by decide)
      generalize ps.getD 0 PR.zero = p0 at *
      generalize ps.getD (ps.length - 1) PR.zero = pl at *
      repeat first | refine And.intro rfl ?_ | refine And.intro True.intro ?_ | refine Or.inl (And.intro rfl ?_) | refine Or.inr (And.intro rfl ?_) | refine And.intro (fun (_ : true = true) => ?_) (fun (h : true = false) => Bool.noConfusion h) | refine And.intro (fun (h : false = true) => Bool.noConfusion h) (fun (_ : false = false) => ?_)
      refine And.intro (show 0 ≤ (0 : Int) ∧ (0 : Int) < (((ps.map ptB).length : Nat) : Int) by rw [List.length_map]; omega) ?_
      rw [g0]
      repeat first | refine And.intro rfl ?_ | refine And.intro True.intro ?_ | refine Or.inl (And.intro rfl ?_) | refine Or.inr (And.intro rfl ?_) | refine And.intro (fun (_ : true = true) => ?_) (fun (h : true = false) => Bool.noConfusion h) | refine And.intro (fun (h : false = true) => Bool.noConfusion h) (fun (_ : false = false) => ?_)
      refine And.intro (And.intro (And.intro (sP.1.lenN (by decide)) (And.intro (sP.1.lenD (by decide)) (And.intro k0.1 k0.2.1))) (And.intro (sP.2.lenN (by decide)) (And.intro (sP.2.lenD (by decide)) (And.intro k0.2.2.1 k0.2.2.2)))) ?_
      repeat first | refine And.intro rfl ?_ | refine And.intro True.intro ?_ | refine Or.inl (And.intro rfl ?_) | refine Or.inr (And.intro rfl ?_) | refine And.intro (fun (_ : true = true) => ?_) (fun (h : true = false) => Bool.noConfusion h) | refine And.intro (fun (h : false = true) => Bool.noConfusion h) (fun (_ : false = false) => ?_)
      refine Or.inl (And.intro (same_pt hP) ?_)
      repeat first | refine And.intro rfl ?_ | refine And.intro True.intro ?_ | refine Or.inl (And.intro rfl ?_) | refine Or.inr (And.intro rfl ?_) | refine And.intro (fun (_ : true = true) => ?_) (fun (h : true = false) => Bool.noConfusion h) | refine And.intro (fun (h : false = true) => Bool.noConfusion h) (fun (_ : false = false) => ?_)
      refine And.intro (show 0 ≤ IntKind.i64.wrap _ ∧ IntKind.i64.wrap _ < (((ps.map ptB).length : Nat) : Int) by rw [hw, List.length_map]; omega) ?_
      rw [hw, Int.toNat_natCast, gl]
      repeat first | refine And.intro rfl ?_ | refine And.intro True.intro ?_ | refine Or.inl (And.intro rfl ?_) | refine Or.inr (And.intro rfl ?_) | refine And.intro (fun (_ : true = true) => ?_) (fun (h : true = false) => Bool.noConfusion h) | refine And.intro (fun (h : false = true) => Bool.noConfusion h) (fun (_ : false = false) => ?_)
      refine And.intro (And.intro (And.intro (sQ.1.lenN (by decide)) (And.intro (sQ.1.lenD (by decide)) (And.intro kl.1 kl.2.1))) (And.intro (sQ.2.lenN (by decide)) (And.intro (sQ.2.lenD (by decide)) (And.intro kl.2.2.1 kl.2.2.2)))) ?_
      repeat first | refine And.intro rfl ?_ | refine And.intro True.intro ?_ | refine Or.inl (And.intro rfl ?_) | refine Or.inr (And.intro rfl ?_) | refine And.intro (fun (_ : true = true) => ?_) (fun (h : true = false) => Bool.noConfusion h) | refine And.intro (fun (h : false = true) => Bool.noConfusion h) (fun (_ : false = false) => ?_)
      refine Or.inl (And.intro (same_pt hQ) ?_)
      repeat first | refine And.intro rfl ?_ | refine And.intro True.intro ?_ | refine Or.inl (And.intro rfl ?_) | refine Or.inr (And.intro rfl ?_) | refine And.intro (fun (_ : true = true) => ?_) (fun (h : true = false) => Bool.noConfusion h) | refine And.intro (fun (h : false = true) => Bool.noConfusion h) (fun (_ : false = false) => ?_)
      refine And.intro (And.intro (show ShP 1000000 (nB [X]) from sh_nB (fun p hp => by simp only [List.mem_singleton] at hp; rw [hp]; exact sX) (by decide)) (And.intro (isP_B (nrm [Y])) (show (nB [X]).length ≤ 1000 by rw [nB_len]; exact Nat.le_of_ble_eq_true rfl))) ?_
      repeat first | refine And.intro rfl ?_ | refine And.intro True.intro ?_ | refine Or.inl (And.intro rfl ?_) | refine Or.inr (And.intro rfl ?_) | refine And.intro (fun (_ : true = true) => ?_) (fun (h : true = false) => Bool.noConfusion h) | refine And.intro (fun (h : false = true) => Bool.noConfusion h) (fun (_ : false = false) => ?_)
      refine Or.inl (And.intro (same_nB (L := [X]) (M := [Y]) (by rw [hXY])) ?_)
      repeat first | refine And.intro rfl ?_ | refine And.intro True.intro ?_ | refine Or.inl (And.intro rfl ?_) | refine Or.inr (And.intro rfl ?_) | refine And.intro (fun (_ : true = true) => ?_) (fun (h : true = false) => Bool.noConfusion h) | refine And.intro (fun (h : false = true) => Bool.noConfusion h) (fun (_ : false = false) => ?_)
      have hrr : ∀ L : List (Rat × Rat), L.length = vs.length → (∀ p, p ∈ L → Sp 5 p) → ShP 60000 (nB L) ∧ (nB L).length ≤ 1000 := fun L h1 h2 => ⟨sh_nB h2 (by decide), by rw [nB_len]; omega⟩
      refine And.intro (hrr vs.reverse (by simp) srs) ?_
      rw [vr, List.reverse_reverse]
      repeat first | refine And.intro rfl ?_ | refine And.intro True.intro ?_ | refine Or.inl (And.intro rfl ?_) | refine Or.inr (And.intro rfl ?_) | refine And.intro (fun (_ : true = true) => ?_) (fun (h : true = false) => Bool.noConfusion h) | refine And.intro (fun (h : false = true) => Bool.noConfusion h) (fun (_ : false = false) => ?_)
      refine And.intro (hrr vs.reverse (by simp) srs) ?_
      rw [vr, List.reverse_reverse]
      repeat first | refine And.intro rfl ?_ | refine And.intro True.intro ?_ | refine Or.inl (And.intro rfl ?_) | refine Or.inr (And.intro rfl ?_) | refine And.intro (fun (_ : true = true) => ?_) (fun (h : true = false) => Bool.noConfusion h) | refine And.intro (fun (h : false = true) => Bool.noConfusion h) (fun (_ : false = false) => ?_)
      refine And.intro (hrr vs rfl svs) ?_
      rw [vals_nB]
      repeat first | refine And.intro rfl ?_ | refine And.intro True.intro ?_ | refine Or.inl (And.intro rfl ?_) | refine Or.inr (And.intro rfl ?_) | refine And.intro (fun (_ : true = true) => ?_) (fun (h : true = false) => Bool.noConfusion h) | refine And.intro (fun (h : false = true) => Bool.noConfusion h) (fun (_ : false = false) => ?_)
      refine And.intro (hrr vs.reverse (by simp) srs) ?_
      rw [vr, List.reverse_reverse]
      repeat first | refine And.intro rfl ?_ | refine And.intro True.intro ?_ | refine Or.inl (And.intro rfl ?_) | refine Or.inr (And.intro rfl ?_) | refine And.intro (fun (_ : true = true) => ?_) (fun (h : true = false) => Bool.noConfusion h) | refine And.intro (fun (h : false = true) => Bool.noConfusion h) (fun (_ : false = false) => ?_)
      refine And.intro (And.intro (sh_nB svs (by decide)) (And.intro (isP_B _) (show (nB vs).length ≤ 1000 by rw [nB_len]; omega))) ?_
      repeat first | refine And.intro rfl ?_ | refine And.intro True.intro ?_ | refine Or.inl (And.intro rfl ?_) | refine Or.inr (And.intro rfl ?_) | refine And.intro (fun (_ : true = true) => ?_) (fun (h : true = false) => Bool.noConfusion h) | refine And.intro (fun (h : false = true) => Bool.noConfusion h) (fun (_ : false = false) => ?_)
      refine Or.inl (And.intro (same_nB rfl) ?_)
      repeat first | refine And.intro rfl ?_ | refine And.intro True.intro ?_ | refine Or.inl (And.intro rfl ?_) | refine Or.inr (And.intro rfl ?_) | refine And.intro (fun (_ : true = true) => ?_) (fun (h : true = false) => Bool.noConfusion h) | refine And.intro (fun (h : false = true) => Bool.noConfusion h) (fun (_ : false = false) => ?_)
      refine And.intro (show 0 ≤ (0 : Int) ∧ (0 : Int) < (((nB vs.reverse).length : Nat) : Int) by rw [nB_len]; omega) ?_
      have hr0 : vs.reverse.getD 0 (0, 0) = pl.v := by
        rw [← hQ, ← eQ, vun, bez_one v2 v4]
        unfold lsQ
        rw [List.getLastD_eq_getLast?, List.getLast?_eq_head?_reverse]
        cases vs.reverse <;> rfl
      have gr0 : (nB vs.reverse).getD (0 : Int).toNat [] = ptB (prQ (vs.reverse.getD 0 (0, 0))) := by
        have h0 : 0 < vs.length := by omega
        simp [nB, nrm, List.getD_eq_getElem?_getD, h0]
      rw [gr0]
      have sr0 : Sp 5 (vs.reverse.getD 0 (0, 0)) := srs _ (getD_mem' _ _ _ (by omega))
      generalize vs.reverse.getD 0 (0, 0) = R0 at *
      repeat first | refine And.intro rfl ?_ | refine And.intro True.intro ?_ | refine Or.inl (And.intro rfl ?_) | refine Or.inr (And.intro rfl ?_) | refine And.intro (fun (_ : true = true) => ?_) (fun (h : true = false) => Bool.noConfusion h) | refine And.intro (fun (h : false = true) => Bool.noConfusion h) (fun (_ : false = false) => ?_)
      refine And.intro (show 0 ≤ IntKind.i64.wrap _ ∧ IntKind.i64.wrap _ < (((ps.map ptB).length : Nat) : Int) by rw [hw, List.length_map]; omega) ?_
      rw [hw, Int.toNat_natCast, gl]
      repeat first | refine And.intro rfl ?_ | refine And.intro True.intro ?_ | refine Or.inl (And.intro rfl ?_) | refine Or.inr (And.intro rfl ?_) | refine And.intro (fun (_ : true = true) => ?_) (fun (h : true = false) => Bool.noConfusion h) | refine And.intro (fun (h : false = true) => Bool.noConfusion h) (fun (_ : false = false) => ?_)
      refine And.intro (And.intro (And.intro (sr0.1.lenN (by decide)) (And.intro (sr0.1.lenD (by decide)) (And.intro kl.1 kl.2.1))) (And.intro (sr0.2.lenN (by decide)) (And.intro (sr0.2.lenD (by decide)) (And.intro kl.2.2.1 kl.2.2.2)))) ?_
      repeat first | refine And.intro rfl ?_ | refine And.intro True.intro ?_ | refine Or.inl (And.intro rfl ?_) | refine Or.inr (And.intro rfl ?_) | refine And.intro (fun (_ : true = true) => ?_) (fun (h : true = false) => Bool.noConfusion h) | refine And.intro (fun (h : false = true) => Bool.noConfusion h) (fun (_ : false = false) => ?_)
      refine Or.inl (And.intro (same_pt hr0) ?_)
      repeat first | refine And.intro rfl ?_ | refine And.intro True.intro ?_ | refine Or.inl (And.intro rfl ?_) | refine Or.inr (And.intro rfl ?_) | refine And.intro (fun (_ : true = true) => ?_) (fun (h : true = false) => Bool.noConfusion h) | refine And.intro (fun (h : false = true) => Bool.noConfusion h) (fun (_ : false = false) => ?_)
      rfl
  · cases h

end Go.Gm
