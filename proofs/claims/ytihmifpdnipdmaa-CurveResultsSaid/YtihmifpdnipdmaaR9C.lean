/-
  The curves of the reference, part C: Box. Plain theorems; no condition.
-/
import Derived.Test.YtihmifpdnipdmaaR9B
set_option linter.all false
namespace Go.Gm
open Go.Proofs

def TY3 : Table := (100, sRatCmp) :: TY1
theorem TY3_ok : TabOk TY3 := TabOk.cons ok_kCmp TY1_ok

theorem cneg {a b : Rat} {v : Bool} (h : decide (cmpQ (rqc a) (rqc b) < 0) = v) : decide (a < b) = v := by
  unfold rqc at h
  rw [rq_cq, rq_cq, cmpQ_neg] at h
  exact h
theorem cpos {a b : Rat} {v : Bool} (h : decide (cmpQ (rqc a) (rqc b) > 0) = v) : decide (b < a) = v := by
  unfold rqc at h
  rw [rq_cq, rq_cq, cmpQ_pos] at h
  exact h

attribute [local irreducible] cmpQ rq loQ hiQ

set_option maxRecDepth 20000 in
set_option maxHeartbeats 8000000 in
theorem ok_yBox : Ok1 96 sBox := by
  refine ok_of TY3_ok Try.func96 rfl (by kernel_rfl) ?_
  intro xs pre res h hp hlim
  unfold sBox at h
  split at h
  · rename_i c
    cases h
    have hsh := hp
    cases hv : okC c with
    | false =>
      refine And.intro (Nat.le_of_ble_eq_true rfl) ?_
      repeat first | refine And.intro rfl ?_ | refine Or.inl (And.intro rfl ?_) | refine Or.inr (And.intro rfl ?_) | refine And.intro (fun (_ : true = true) => ?_) (fun (h : true = false) => Bool.noConfusion h) | refine And.intro (fun (h : false = true) => Bool.noConfusion h) (fun (_ : false = false) => ?_)
      repeat first | refine And.intro rfl ?_ | refine And.intro True.intro ?_ | refine Or.inl (And.intro rfl ?_) | refine Or.inr (And.intro rfl ?_) | refine And.intro (fun (_ : true = true) => ?_) (fun (h : true = false) => Bool.noConfusion h) | refine And.intro (fun (h : false = true) => Bool.noConfusion h) (fun (_ : false = false) => ?_)
      refine And.intro (fun hc => ?_) (fun hc => ?_)
      · repeat first | refine And.intro rfl ?_ | refine And.intro True.intro ?_ | refine Or.inl (And.intro rfl ?_) | refine Or.inr (And.intro rfl ?_) | refine And.intro (fun (_ : true = true) => ?_) (fun (h : true = false) => Bool.noConfusion h) | refine And.intro (fun (h : false = true) => Bool.noConfusion h) (fun (_ : false = false) => ?_)
        rfl
      · rw [show decide (2 ≤ c.length ∧ c.length ≤ 4) = false from hv] at hc
        cases hc
    | true =>
      have hv' := of_decide_eq_true hv
      obtain ⟨ps, rfl, hps, hpl⟩ := sh_le hsh
      rw [← hpl] at hv'
      have hlm := lm_of hlim.1
      rw [valsOf_B]
      have vc := valsOf_B ps
      have svs := sp_vals hlm hps
      obtain ⟨vs, hvs⟩ : ∃ vs, vs = ps.map PR.v := ⟨_, rfl⟩
      have hvl : vs.length = ps.length := by rw [hvs, List.length_map]
      rw [← hvs] at vc svs ⊢
      obtain ⟨v0, ws, rfl⟩ : ∃ v0 ws, vs = v0 :: ws := by
        cases vs with
        | nil => simp at hvl; omega
        | cons v ws => exact ⟨v, ws, rfl⟩
      rw [List.length_cons] at hvl
      have sv0 : Sp 301 v0 := svs v0 (List.mem_cons_self ..)
      have elo : boxLo (v0 :: ws) = loQ v0 ws := rfl
      have ehi : boxHi (v0 :: ws) = hiQ v0 ws := rfl
      have l0 : loQ v0 (ws.take 0) = v0 := by rw [List.take_zero]; unfold loQ; rfl
      have h0' : hiQ v0 (ws.take 0) = v0 := by rw [List.take_zero]; unfold hiQ; rfl
      rw [elo, ehi]
      refine And.intro (Nat.le_of_ble_eq_true rfl) ?_
      repeat first | refine And.intro rfl ?_ | refine Or.inl (And.intro rfl ?_) | refine Or.inr (And.intro rfl ?_) | refine And.intro (fun (_ : true = true) => ?_) (fun (h : true = false) => Bool.noConfusion h) | refine And.intro (fun (h : false = true) => Bool.noConfusion h) (fun (_ : false = false) => ?_)
      repeat first | refine And.intro rfl ?_ | refine And.intro True.intro ?_ | refine Or.inl (And.intro rfl ?_) | refine Or.inr (And.intro rfl ?_) | refine And.intro (fun (_ : true = true) => ?_) (fun (h : true = false) => Bool.noConfusion h) | refine And.intro (fun (h : false = true) => Bool.noConfusion h) (fun (_ : false = false) => ?_)
      refine And.intro (fun hc => ?_) (fun hc => ?_)
      · rw [show decide (2 ≤ (ps.map ptB).length ∧ (ps.map ptB).length ≤ 4) = true from hv] at hc
        cases hc
      repeat first | refine And.intro rfl ?_ | refine And.intro True.intro ?_ | refine Or.inl (And.intro rfl ?_) | refine Or.inr (And.intro rfl ?_) | refine And.intro (fun (_ : true = true) => ?_) (fun (h : true = false) => Bool.noConfusion h) | refine And.intro (fun (h : false = true) => Bool.noConfusion h) (fun (_ : false = false) => ?_)
      refine And.intro (show ShP 60000 (ps.map ptB) ∧ (ps.map ptB).length ≤ 1000 from ⟨sh_ps hps (by decide), by rw [List.length_map]; omega⟩) ?_
      rw [vc]
      repeat first | refine And.intro rfl ?_ | refine And.intro True.intro ?_ | refine Or.inl (And.intro rfl ?_) | refine Or.inr (And.intro rfl ?_) | refine And.intro (fun (_ : true = true) => ?_) (fun (h : true = false) => Bool.noConfusion h) | refine And.intro (fun (h : false = true) => Bool.noConfusion h) (fun (_ : false = false) => ?_)
      have hidx : 0 ≤ (0 : Int) ∧ (0 : Int) < (((nB (v0 :: ws)).length : Nat) : Int) := by rw [nB_len, List.length_cons]; omega
      refine Exists.intro ⟨[(2, .ptr 0 0), (3, .ptr 1 0), (5, .one (.sl 6 (nB (v0 :: ws))))], ⟨[(38, ptC (prQ v0)), (38, ptC (prQ v0))], []⟩⟩ (And.intro ?_ ?_)
      · repeat' first | exact trivial | exact hidx | rfl | refine And.intro ?_ ?_
      repeat first | refine And.intro rfl ?_ | refine And.intro True.intro ?_ | refine Or.inl (And.intro rfl ?_) | refine Or.inr (And.intro rfl ?_) | refine And.intro (fun (_ : true = true) => ?_) (fun (h : true = false) => Bool.noConfusion h) | refine And.intro (fun (h : false = true) => Bool.noConfusion h) (fun (_ : false = false) => ?_)
      refine Exists.intro {x : Nat × (Rat × Rat) × (Rat × Rat) // x.1 ≤ ws.length ∧ (Sp 301 x.2.1 ∧ Sp 301 x.2.2) ∧ x.2.1 = loQ v0 (ws.take x.1) ∧ x.2.2 = hiQ v0 (ws.take x.1)} (Exists.intro (fun x => ⟨[(2, .ptr 0 0), (3, .ptr 1 0), (5, .one (.sl 6 (nB (v0 :: ws)))), (6, .val (.int .i64 ((x.1.1 + 1 : Nat) : Int)))], ⟨[(38, ptC (prQ x.1.2.1)), (38, ptC (prQ x.1.2.2))], []⟩⟩) (Exists.intro (fun x => ws.length - x.1.1) (Exists.intro ⟨(0, v0, v0), Nat.zero_le _, ⟨sv0, sv0⟩, l0.symm, h0'.symm⟩ (And.intro ?_ ?_))))
      · repeat first | exact trivial | refine And.intro rfl ?_ | refine And.intro trivial ?_ | refine And.intro (And.intro rfl trivial) ?_ | refine And.intro (And.intro rfl (And.intro rfl trivial)) ?_
      · rintro ⟨⟨k, lo, hi⟩, hk, ⟨slo, shi⟩, elo', ehi'⟩
        simp only at hk slo shi elo' ehi'
        repeat first | refine And.intro rfl ?_ | refine Or.inl (And.intro rfl ?_) | refine Or.inr (And.intro rfl ?_) | refine And.intro (fun (_ : true = true) => ?_) (fun (h : true = false) => Bool.noConfusion h) | refine And.intro (fun (h : false = true) => Bool.noConfusion h) (fun (_ : false = false) => ?_)
        refine And.intro (fun hc => ?_) (fun hc => ?_)
        · have hk' : ((k + 1 : Nat) : Int) < (((nB (v0 :: ws)).length : Nat) : Int) := of_decide_eq_true hc
          rw [nB_len, List.length_cons] at hk'
          obtain ⟨p, hpp⟩ : ∃ p, p = ws.getD k (0, 0) := ⟨_, rfl⟩
          have g1 : (nB (v0 :: ws)).getD ((k + 1 : Nat) : Int).toNat [] = ptB (prQ p) := by
            rw [Int.toNat_natCast, nB_get _ _ (by rw [List.length_cons]; omega), hpp]
            rfl
          have sp : Sp 301 p := svs p (List.mem_cons_of_mem _ (by rw [hpp]; exact getD_mem' ws k (0, 0) (by omega)))
          have evs : ws.take (k + 1) = ws.take k ++ [p] := by rw [take_snoc ws (0, 0) k (by omega), hpp]
          have hix : 0 ≤ ((k + 1 : Nat) : Int) ∧ ((k + 1 : Nat) : Int) < (((nB (v0 :: ws)).length : Nat) : Int) := by rw [nB_len, List.length_cons]; omega
          repeat first | refine And.intro rfl ?_ | refine Or.inl (And.intro rfl ?_) | refine Or.inr (And.intro rfl ?_) | refine And.intro (fun (_ : true = true) => ?_) (fun (h : true = false) => Bool.noConfusion h) | refine And.intro (fun (h : false = true) => Bool.noConfusion h) (fun (_ : false = false) => ?_)
          refine And.intro hix ?_
          rw [g1]
          repeat first | refine And.intro rfl ?_ | refine Or.inl (And.intro rfl ?_) | refine Or.inr (And.intro rfl ?_) | refine And.intro (fun (_ : true = true) => ?_) (fun (h : true = false) => Bool.noConfusion h) | refine And.intro (fun (h : false = true) => Bool.noConfusion h) (fun (_ : false = false) => ?_)
          refine And.intro (show (dg p.1.num.natAbs).length ≤ 40000 ∧ (dg p.1.den).length ≤ 40000 ∧ (dg lo.1.num.natAbs).length ≤ 40000 ∧ (dg lo.1.den).length ≤ 40000 from ⟨sp.1.lenN (by decide), sp.1.lenD (by decide), slo.1.lenN (by decide), slo.1.lenD (by decide)⟩) ?_
          repeat first | refine And.intro rfl ?_ | refine Or.inl (And.intro rfl ?_) | refine Or.inr (And.intro rfl ?_) | refine And.intro (fun (_ : true = true) => ?_) (fun (h : true = false) => Bool.noConfusion h) | refine And.intro (fun (h : false = true) => Bool.noConfusion h) (fun (_ : false = false) => ?_)
          refine And.intro (fun hc => ?_) (fun hc => ?_)
          · have h0 : decide (p.1 < lo.1) = true := cneg hc
            repeat first | refine And.intro rfl ?_ | refine Or.inl (And.intro rfl ?_) | refine Or.inr (And.intro rfl ?_) | refine And.intro (fun (_ : true = true) => ?_) (fun (h : true = false) => Bool.noConfusion h) | refine And.intro (fun (h : false = true) => Bool.noConfusion h) (fun (_ : false = false) => ?_)
            refine And.intro hix ?_
            rw [g1]
            repeat first | refine And.intro rfl ?_ | refine Or.inl (And.intro rfl ?_) | refine Or.inr (And.intro rfl ?_) | refine And.intro (fun (_ : true = true) => ?_) (fun (h : true = false) => Bool.noConfusion h) | refine And.intro (fun (h : false = true) => Bool.noConfusion h) (fun (_ : false = false) => ?_)
            refine And.intro hix ?_
            rw [g1]
            repeat first | refine And.intro rfl ?_ | refine Or.inl (And.intro rfl ?_) | refine Or.inr (And.intro rfl ?_) | refine And.intro (fun (_ : true = true) => ?_) (fun (h : true = false) => Bool.noConfusion h) | refine And.intro (fun (h : false = true) => Bool.noConfusion h) (fun (_ : false = false) => ?_)
            refine And.intro (show (dg p.2.num.natAbs).length ≤ 40000 ∧ (dg p.2.den).length ≤ 40000 ∧ (dg lo.2.num.natAbs).length ≤ 40000 ∧ (dg lo.2.den).length ≤ 40000 from ⟨sp.2.lenN (by decide), sp.2.lenD (by decide), slo.2.lenN (by decide), slo.2.lenD (by decide)⟩) ?_
            repeat first | refine And.intro rfl ?_ | refine Or.inl (And.intro rfl ?_) | refine Or.inr (And.intro rfl ?_) | refine And.intro (fun (_ : true = true) => ?_) (fun (h : true = false) => Bool.noConfusion h) | refine And.intro (fun (h : false = true) => Bool.noConfusion h) (fun (_ : false = false) => ?_)
            refine And.intro (fun hc => ?_) (fun hc => ?_)
            · have h1 : decide (p.2 < lo.2) = true := cneg hc
              repeat first | refine And.intro rfl ?_ | refine Or.inl (And.intro rfl ?_) | refine Or.inr (And.intro rfl ?_) | refine And.intro (fun (_ : true = true) => ?_) (fun (h : true = false) => Bool.noConfusion h) | refine And.intro (fun (h : false = true) => Bool.noConfusion h) (fun (_ : false = false) => ?_)
              refine And.intro hix ?_
              rw [g1]
              repeat first | refine And.intro rfl ?_ | refine Or.inl (And.intro rfl ?_) | refine Or.inr (And.intro rfl ?_) | refine And.intro (fun (_ : true = true) => ?_) (fun (h : true = false) => Bool.noConfusion h) | refine And.intro (fun (h : false = true) => Bool.noConfusion h) (fun (_ : false = false) => ?_)
              refine And.intro hix ?_
              rw [g1]
              repeat first | refine And.intro rfl ?_ | refine Or.inl (And.intro rfl ?_) | refine Or.inr (And.intro rfl ?_) | refine And.intro (fun (_ : true = true) => ?_) (fun (h : true = false) => Bool.noConfusion h) | refine And.intro (fun (h : false = true) => Bool.noConfusion h) (fun (_ : false = false) => ?_)
              refine And.intro (show (dg p.1.num.natAbs).length ≤ 40000 ∧ (dg p.1.den).length ≤ 40000 ∧ (dg hi.1.num.natAbs).length ≤ 40000 ∧ (dg hi.1.den).length ≤ 40000 from ⟨sp.1.lenN (by decide), sp.1.lenD (by decide), shi.1.lenN (by decide), shi.1.lenD (by decide)⟩) ?_
              repeat first | refine And.intro rfl ?_ | refine Or.inl (And.intro rfl ?_) | refine Or.inr (And.intro rfl ?_) | refine And.intro (fun (_ : true = true) => ?_) (fun (h : true = false) => Bool.noConfusion h) | refine And.intro (fun (h : false = true) => Bool.noConfusion h) (fun (_ : false = false) => ?_)
              refine And.intro (fun hc => ?_) (fun hc => ?_)
              · have h2 : decide (hi.1 < p.1) = true := cpos hc
                repeat first | refine And.intro rfl ?_ | refine Or.inl (And.intro rfl ?_) | refine Or.inr (And.intro rfl ?_) | refine And.intro (fun (_ : true = true) => ?_) (fun (h : true = false) => Bool.noConfusion h) | refine And.intro (fun (h : false = true) => Bool.noConfusion h) (fun (_ : false = false) => ?_)
                refine And.intro hix ?_
                rw [g1]
                repeat first | refine And.intro rfl ?_ | refine Or.inl (And.intro rfl ?_) | refine Or.inr (And.intro rfl ?_) | refine And.intro (fun (_ : true = true) => ?_) (fun (h : true = false) => Bool.noConfusion h) | refine And.intro (fun (h : false = true) => Bool.noConfusion h) (fun (_ : false = false) => ?_)
                refine And.intro hix ?_
                rw [g1]
                repeat first | refine And.intro rfl ?_ | refine Or.inl (And.intro rfl ?_) | refine Or.inr (And.intro rfl ?_) | refine And.intro (fun (_ : true = true) => ?_) (fun (h : true = false) => Bool.noConfusion h) | refine And.intro (fun (h : false = true) => Bool.noConfusion h) (fun (_ : false = false) => ?_)
                refine And.intro (show (dg p.2.num.natAbs).length ≤ 40000 ∧ (dg p.2.den).length ≤ 40000 ∧ (dg hi.2.num.natAbs).length ≤ 40000 ∧ (dg hi.2.den).length ≤ 40000 from ⟨sp.2.lenN (by decide), sp.2.lenD (by decide), shi.2.lenN (by decide), shi.2.lenD (by decide)⟩) ?_
                repeat first | refine And.intro rfl ?_ | refine Or.inl (And.intro rfl ?_) | refine Or.inr (And.intro rfl ?_) | refine And.intro (fun (_ : true = true) => ?_) (fun (h : true = false) => Bool.noConfusion h) | refine And.intro (fun (h : false = true) => Bool.noConfusion h) (fun (_ : false = false) => ?_)
                refine And.intro (fun hc => ?_) (fun hc => ?_)
                · have h3 : decide (hi.2 < p.2) = true := cpos hc
                  repeat first | refine And.intro rfl ?_ | refine Or.inl (And.intro rfl ?_) | refine Or.inr (And.intro rfl ?_) | refine And.intro (fun (_ : true = true) => ?_) (fun (h : true = false) => Bool.noConfusion h) | refine And.intro (fun (h : false = true) => Bool.noConfusion h) (fun (_ : false = false) => ?_)
                  refine And.intro hix ?_
                  rw [g1]
                  repeat first | refine And.intro rfl ?_ | refine Or.inl (And.intro rfl ?_) | refine Or.inr (And.intro rfl ?_) | refine And.intro (fun (_ : true = true) => ?_) (fun (h : true = false) => Bool.noConfusion h) | refine And.intro (fun (h : false = true) => Bool.noConfusion h) (fun (_ : false = false) => ?_)
                  refine Exists.intro ⟨(k + 1, (p.1, p.2), (p.1, p.2)), (show k + 1 ≤ _ by omega), ⟨⟨sp.1, sp.2⟩, ⟨sp.1, sp.2⟩⟩, ?_, ?_⟩ (And.intro (show ws.length - (k + 1) < ws.length - k by omega) ?_)
                  · show (p.1, p.2) = loQ v0 (ws.take (k + 1))
                    rw [evs, loQ_snoc, ← elo']
                    unfold minR
                    rw [h0, h1]
                    rfl
                  · show (p.1, p.2) = hiQ v0 (ws.take (k + 1))
                    rw [evs, hiQ_snoc, ← ehi']
                    unfold maxR
                    rw [h2, h3]
                    rfl
                  · repeat first | exact trivial | refine And.intro rfl ?_ | refine And.intro trivial ?_ | refine And.intro (And.intro rfl trivial) ?_ | refine And.intro (And.intro rfl (And.intro rfl trivial)) ?_
                    exact And.intro (avI (show IntKind.i64.wrap (((k + 1 : Nat) : Int) + 1) = ((k + 1 + 1 : Nat) : Int) by rw [wI (by omega) (by omega)]; omega)) trivial
                · have h3 : decide (hi.2 < p.2) = false := cpos hc
                  repeat first | refine And.intro rfl ?_ | refine Or.inl (And.intro rfl ?_) | refine Or.inr (And.intro rfl ?_) | refine And.intro (fun (_ : true = true) => ?_) (fun (h : true = false) => Bool.noConfusion h) | refine And.intro (fun (h : false = true) => Bool.noConfusion h) (fun (_ : false = false) => ?_)
                  refine Exists.intro ⟨(k + 1, (p.1, p.2), (p.1, hi.2)), (show k + 1 ≤ _ by omega), ⟨⟨sp.1, sp.2⟩, ⟨sp.1, shi.2⟩⟩, ?_, ?_⟩ (And.intro (show ws.length - (k + 1) < ws.length - k by omega) ?_)
                  · show (p.1, p.2) = loQ v0 (ws.take (k + 1))
                    rw [evs, loQ_snoc, ← elo']
                    unfold minR
                    rw [h0, h1]
                    rfl
                  · show (p.1, hi.2) = hiQ v0 (ws.take (k + 1))
                    rw [evs, hiQ_snoc, ← ehi']
                    unfold maxR
                    rw [h2, h3]
                    rfl
                  · repeat first | exact trivial | refine And.intro rfl ?_ | refine And.intro trivial ?_ | refine And.intro (And.intro rfl trivial) ?_ | refine And.intro (And.intro rfl (And.intro rfl trivial)) ?_
                    exact And.intro (avI (show IntKind.i64.wrap (((k + 1 : Nat) : Int) + 1) = ((k + 1 + 1 : Nat) : Int) by rw [wI (by omega) (by omega)]; omega)) trivial
              · have h2 : decide (hi.1 < p.1) = false := cpos hc
                repeat first | refine And.intro rfl ?_ | refine Or.inl (And.intro rfl ?_) | refine Or.inr (And.intro rfl ?_) | refine And.intro (fun (_ : true = true) => ?_) (fun (h : true = false) => Bool.noConfusion h) | refine And.intro (fun (h : false = true) => Bool.noConfusion h) (fun (_ : false = false) => ?_)
                refine And.intro hix ?_
                rw [g1]
                repeat first | refine And.intro rfl ?_ | refine Or.inl (And.intro rfl ?_) | refine Or.inr (And.intro rfl ?_) | refine And.intro (fun (_ : true = true) => ?_) (fun (h : true = false) => Bool.noConfusion h) | refine And.intro (fun (h : false = true) => Bool.noConfusion h) (fun (_ : false = false) => ?_)
                refine And.intro (show (dg p.2.num.natAbs).length ≤ 40000 ∧ (dg p.2.den).length ≤ 40000 ∧ (dg hi.2.num.natAbs).length ≤ 40000 ∧ (dg hi.2.den).length ≤ 40000 from ⟨sp.2.lenN (by decide), sp.2.lenD (by decide), shi.2.lenN (by decide), shi.2.lenD (by decide)⟩) ?_
                repeat first | refine And.intro rfl ?_ | refine Or.inl (And.intro rfl ?_) | refine Or.inr (And.intro rfl ?_) | refine And.intro (fun (_ : true = true) => ?_) (fun (h : true = false) => Bool.noConfusion h) | refine And.intro (fun (h : false = true) => Bool.noConfusion h) (fun (_ : false = false) => ?_)
                refine And.intro (fun hc => ?_) (fun hc => ?_)
                · have h3 : decide (hi.2 < p.2) = true := cpos hc
                  repeat first | refine And.intro rfl ?_ | refine Or.inl (And.intro rfl ?_) | refine Or.inr (And.intro rfl ?_) | refine And.intro (fun (_ : true = true) => ?_) (fun (h : true = false) => Bool.noConfusion h) | refine And.intro (fun (h : false = true) => Bool.noConfusion h) (fun (_ : false = false) => ?_)
                  refine And.intro hix ?_
                  rw [g1]
                  repeat first | refine And.intro rfl ?_ | refine Or.inl (And.intro rfl ?_) | refine Or.inr (And.intro rfl ?_) | refine And.intro (fun (_ : true = true) => ?_) (fun (h : true = false) => Bool.noConfusion h) | refine And.intro (fun (h : false = true) => Bool.noConfusion h) (fun (_ : false = false) => ?_)
                  refine Exists.intro ⟨(k + 1, (p.1, p.2), (hi.1, p.2)), (show k + 1 ≤ _ by omega), ⟨⟨sp.1, sp.2⟩, ⟨shi.1, sp.2⟩⟩, ?_, ?_⟩ (And.intro (show ws.length - (k + 1) < ws.length - k by omega) ?_)
                  · show (p.1, p.2) = loQ v0 (ws.take (k + 1))
                    rw [evs, loQ_snoc, ← elo']
                    unfold minR
                    rw [h0, h1]
                    rfl
                  · show (hi.1, p.2) = hiQ v0 (ws.take (k + 1))
                    rw [evs, hiQ_snoc, ← ehi']
                    unfold maxR
                    rw [h2, h3]
                    rfl
                  · repeat first | exact trivial | refine And.intro rfl ?_ | refine And.intro trivial ?_ | refine And.intro (And.intro rfl trivial) ?_ | refine And.intro (And.intro rfl (And.intro rfl trivial)) ?_
                    exact And.intro (avI (show IntKind.i64.wrap (((k + 1 : Nat) : Int) + 1) = ((k + 1 + 1 : Nat) : Int) by rw [wI (by omega) (by omega)]; omega)) trivial
                · have h3 : decide (hi.2 < p.2) = false := cpos hc
                  repeat first | refine And.intro rfl ?_ | refine Or.inl (And.intro rfl ?_) | refine Or.inr (And.intro rfl ?_) | refine And.intro (fun (_ : true = true) => ?_) (fun (h : true = false) => Bool.noConfusion h) | refine And.intro (fun (h : false = true) => Bool.noConfusion h) (fun (_ : false = false) => ?_)
                  refine Exists.intro ⟨(k + 1, (p.1, p.2), (hi.1, hi.2)), (show k + 1 ≤ _ by omega), ⟨⟨sp.1, sp.2⟩, ⟨shi.1, shi.2⟩⟩, ?_, ?_⟩ (And.intro (show ws.length - (k + 1) < ws.length - k by omega) ?_)
                  · show (p.1, p.2) = loQ v0 (ws.take (k + 1))
                    rw [evs, loQ_snoc, ← elo']
                    unfold minR
                    rw [h0, h1]
                    rfl
                  · show (hi.1, hi.2) = hiQ v0 (ws.take (k + 1))
                    rw [evs, hiQ_snoc, ← ehi']
                    unfold maxR
                    rw [h2, h3]
                    rfl
                  · repeat first | exact trivial | refine And.intro rfl ?_ | refine And.intro trivial ?_ | refine And.intro (And.intro rfl trivial) ?_ | refine And.intro (And.intro rfl (And.intro rfl trivial)) ?_
                    exact And.intro (avI (show IntKind.i64.wrap (((k + 1 : Nat) : Int) + 1) = ((k + 1 + 1 : Nat) : Int) by rw [wI (by omega) (by omega)]; omega)) trivial
            · have h1 : decide (p.2 < lo.2) = false := cneg hc
              repeat first | refine And.intro rfl ?_ | refine Or.inl (And.intro rfl ?_) | refine Or.inr (And.intro rfl ?_) | refine And.intro (fun (_ : true = true) => ?_) (fun (h : true = false) => Bool.noConfusion h) | refine And.intro (fun (h : false = true) => Bool.noConfusion h) (fun (_ : false = false) => ?_)
              refine And.intro hix ?_
              rw [g1]
              repeat first | refine And.intro rfl ?_ | refine Or.inl (And.intro rfl ?_) | refine Or.inr (And.intro rfl ?_) | refine And.intro (fun (_ : true = true) => ?_) (fun (h : true = false) => Bool.noConfusion h) | refine And.intro (fun (h : false = true) => Bool.noConfusion h) (fun (_ : false = false) => ?_)
              refine And.intro (show (dg p.1.num.natAbs).length ≤ 40000 ∧ (dg p.1.den).length ≤ 40000 ∧ (dg hi.1.num.natAbs).length ≤ 40000 ∧ (dg hi.1.den).length ≤ 40000 from ⟨sp.1.lenN (by decide), sp.1.lenD (by decide), shi.1.lenN (by decide), shi.1.lenD (by decide)⟩) ?_
              repeat first | refine And.intro rfl ?_ | refine Or.inl (And.intro rfl ?_) | refine Or.inr (And.intro rfl ?_) | refine And.intro (fun (_ : true = true) => ?_) (fun (h : true = false) => Bool.noConfusion h) | refine And.intro (fun (h : false = true) => Bool.noConfusion h) (fun (_ : false = false) => ?_)
              refine And.intro (fun hc => ?_) (fun hc => ?_)
              · have h2 : decide (hi.1 < p.1) = true := cpos hc
                repeat first | refine And.intro rfl ?_ | refine Or.inl (And.intro rfl ?_) | refine Or.inr (And.intro rfl ?_) | refine And.intro (fun (_ : true = true) => ?_) (fun (h : true = false) => Bool.noConfusion h) | refine And.intro (fun (h : false = true) => Bool.noConfusion h) (fun (_ : false = false) => ?_)
                refine And.intro hix ?_
                rw [g1]
                repeat first | refine And.intro rfl ?_ | refine Or.inl (And.intro rfl ?_) | refine Or.inr (And.intro rfl ?_) | refine And.intro (fun (_ : true = true) => ?_) (fun (h : true = false) => Bool.noConfusion h) | refine And.intro (fun (h : false = true) => Bool.noConfusion h) (fun (_ : false = false) => ?_)
                refine And.intro hix ?_
                rw [g1]
                repeat first | refine And.intro rfl ?_ | refine Or.inl (And.intro rfl ?_) | refine Or.inr (And.intro rfl ?_) | refine And.intro (fun (_ : true = true) => ?_) (fun (h : true = false) => Bool.noConfusion h) | refine And.intro (fun (h : false = true) => Bool.noConfusion h) (fun (_ : false = false) => ?_)
                refine And.intro (show (dg p.2.num.natAbs).length ≤ 40000 ∧ (dg p.2.den).length ≤ 40000 ∧ (dg hi.2.num.natAbs).length ≤ 40000 ∧ (dg hi.2.den).length ≤ 40000 from ⟨sp.2.lenN (by decide), sp.2.lenD (by decide), shi.2.lenN (by decide), shi.2.lenD (by decide)⟩) ?_
                repeat first | refine And.intro rfl ?_ | refine Or.inl (And.intro rfl ?_) | refine Or.inr (And.intro rfl ?_) | refine And.intro (fun (_ : true = true) => ?_) (fun (h : true = false) => Bool.noConfusion h) | refine And.intro (fun (h : false = true) => Bool.noConfusion h) (fun (_ : false = false) => ?_)
                refine And.intro (fun hc => ?_) (fun hc => ?_)
                · have h3 : decide (hi.2 < p.2) = true := cpos hc
                  repeat first | refine And.intro rfl ?_ | refine Or.inl (And.intro rfl ?_) | refine Or.inr (And.intro rfl ?_) | refine And.intro (fun (_ : true = true) => ?_) (fun (h : true = false) => Bool.noConfusion h) | refine And.intro (fun (h : false = true) => Bool.noConfusion h) (fun (_ : false = false) => ?_)
                  refine And.intro hix ?_
                  rw [g1]
                  repeat first | refine And.intro rfl ?_ | refine Or.inl (And.intro rfl ?_) | refine Or.inr (And.intro rfl ?_) | refine And.intro (fun (_ : true = true) => ?_) (fun (h : true = false) => Bool.noConfusion h) | refine And.intro (fun (h : false = true) => Bool.noConfusion h) (fun (_ : false = false) => ?_)
                  refine Exists.intro ⟨(k + 1, (p.1, lo.2), (p.1, p.2)), (show k + 1 ≤ _ by omega), ⟨⟨sp.1, slo.2⟩, ⟨sp.1, sp.2⟩⟩, ?_, ?_⟩ (And.intro (show ws.length - (k + 1) < ws.length - k by omega) ?_)
                  · show (p.1, lo.2) = loQ v0 (ws.take (k + 1))
                    rw [evs, loQ_snoc, ← elo']
                    unfold minR
                    rw [h0, h1]
                    rfl
                  · show (p.1, p.2) = hiQ v0 (ws.take (k + 1))
                    rw [evs, hiQ_snoc, ← ehi']
                    unfold maxR
                    rw [h2, h3]
                    rfl
                  · repeat first | exact trivial | refine And.intro rfl ?_ | refine And.intro trivial ?_ | refine And.intro (And.intro rfl trivial) ?_ | refine And.intro (And.intro rfl (And.intro rfl trivial)) ?_
                    exact And.intro (avI (show IntKind.i64.wrap (((k + 1 : Nat) : Int) + 1) = ((k + 1 + 1 : Nat) : Int) by rw [wI (by omega) (by omega)]; omega)) trivial
                · have h3 : decide (hi.2 < p.2) = false := cpos hc
                  repeat first | refine And.intro rfl ?_ | refine Or.inl (And.intro rfl ?_) | refine Or.inr (And.intro rfl ?_) | refine And.intro (fun (_ : true = true) => ?_) (fun (h : true = false) => Bool.noConfusion h) | refine And.intro (fun (h : false = true) => Bool.noConfusion h) (fun (_ : false = false) => ?_)
                  refine Exists.intro ⟨(k + 1, (p.1, lo.2), (p.1, hi.2)), (show k + 1 ≤ _ by omega), ⟨⟨sp.1, slo.2⟩, ⟨sp.1, shi.2⟩⟩, ?_, ?_⟩ (And.intro (show ws.length - (k + 1) < ws.length - k by omega) ?_)
                  · show (p.1, lo.2) = loQ v0 (ws.take (k + 1))
                    rw [evs, loQ_snoc, ← elo']
                    unfold minR
                    rw [h0, h1]
                    rfl
                  · show (p.1, hi.2) = hiQ v0 (ws.take (k + 1))
                    rw [evs, hiQ_snoc, ← ehi']
                    unfold maxR
                    rw [h2, h3]
                    rfl
                  · repeat first | exact trivial | refine And.intro rfl ?_ | refine And.intro trivial ?_ | refine And.intro (And.intro rfl trivial) ?_ | refine And.intro (And.intro rfl (And.intro rfl trivial)) ?_
                    exact And.intro (avI (show IntKind.i64.wrap (((k + 1 : Nat) : Int) + 1) = ((k + 1 + 1 : Nat) : Int) by rw [wI (by omega) (by omega)]; omega)) trivial
              · have h2 : decide (hi.1 < p.1) = false := cpos hc
                repeat first | refine And.intro rfl ?_ | refine Or.inl (And.intro rfl ?_) | refine Or.inr (And.intro rfl ?_) | refine And.intro (fun (_ : true = true) => ?_) (fun (h : true = false) => Bool.noConfusion h) | refine And.intro (fun (h : false = true) => Bool.noConfusion h) (fun (_ : false = false) => ?_)
                refine And.intro hix ?_
                rw [g1]
                repeat first | refine And.intro rfl ?_ | refine Or.inl (And.intro rfl ?_) | refine Or.inr (And.intro rfl ?_) | refine And.intro (fun (_ : true = true) => ?_) (fun (h : true = false) => Bool.noConfusion h) | refine And.intro (fun (h : false = true) => Bool.noConfusion h) (fun (_ : false = false) => ?_)
                refine And.intro (show (dg p.2.num.natAbs).length ≤ 40000 ∧ (dg p.2.den).length ≤ 40000 ∧ (dg hi.2.num.natAbs).length ≤ 40000 ∧ (dg hi.2.den).length ≤ 40000 from ⟨sp.2.lenN (by decide), sp.2.lenD (by decide), shi.2.lenN (by decide), shi.2.lenD (by decide)⟩) ?_
                repeat first | refine And.intro rfl ?_ | refine Or.inl (And.intro rfl ?_) | refine Or.inr (And.intro rfl ?_) | refine And.intro (fun (_ : true = true) => ?_) (fun (h : true = false) => Bool.noConfusion h) | refine And.intro (fun (h : false = true) => Bool.noConfusion h) (fun (_ : false = false) => ?_)
                refine And.intro (fun hc => ?_) (fun hc => ?_)
                · have h3 : decide (hi.2 < p.2) = true := cpos hc
                  repeat first | refine And.intro rfl ?_ | refine Or.inl (And.intro rfl ?_) | refine Or.inr (And.intro rfl ?_) | refine And.intro (fun (_ : true = true) => ?_) (fun (h : true = false) => Bool.noConfusion h) | refine And.intro (fun (h : false = true) => Bool.noConfusion h) (fun (_ : false = false) => ?_)
                  refine And.intro hix ?_
                  rw [g1]
                  repeat first | refine And.intro rfl ?_ | refine Or.inl (And.intro rfl ?_) | refine Or.inr (And.intro rfl ?_) | refine And.intro (fun (_ : true = true) => ?_) (fun (h : true = false) => Bool.noConfusion h) | refine And.intro (fun (h : false = true) => Bool.noConfusion h) (fun (_ : false = false) => ?_)
                  refine Exists.intro ⟨(k + 1, (p.1, lo.2), (hi.1, p.2)), (show k + 1 ≤ _ by omega), ⟨⟨sp.1, slo.2⟩, ⟨shi.1, sp.2⟩⟩, ?_, ?_⟩ (And.intro (show ws.length - (k + 1) < ws.length - k by omega) ?_)
                  · show (p.1, lo.2) = loQ v0 (ws.take (k + 1))
                    rw [evs, loQ_snoc, ← elo']
                    unfold minR
                    rw [h0, h1]
                    rfl
                  · show (hi.1, p.2) = hiQ v0 (ws.take (k + 1))
                    rw [evs, hiQ_snoc, ← ehi']
                    unfold maxR
                    rw [h2, h3]
                    rfl
                  · repeat first | exact trivial | refine And.intro rfl ?_ | refine And.intro trivial ?_ | refine And.intro (And.intro rfl trivial) ?_ | refine And.intro (And.intro rfl (And.intro rfl trivial)) ?_
                    exact And.intro (avI (show IntKind.i64.wrap (((k + 1 : Nat) : Int) + 1) = ((k + 1 + 1 : Nat) : Int) by rw [wI (by omega) (by omega)]; omega)) trivial
                · have h3 : decide (hi.2 < p.2) = false := cpos hc
                  repeat first | refine And.intro rfl ?_ | refine Or.inl (And.intro rfl ?_) | refine Or.inr (And.intro rfl ?_) | refine And.intro (fun (_ : true = true) => ?_) (fun (h : true = false) => Bool.noConfusion h) | refine And.intro (fun (h : false = true) => Bool.noConfusion h) (fun (_ : false = false) => ?_)
                  refine Exists.intro ⟨(k + 1, (p.1, lo.2), (hi.1, hi.2)), (show k + 1 ≤ _ by omega), ⟨⟨sp.1, slo.2⟩, ⟨shi.1, shi.2⟩⟩, ?_, ?_⟩ (And.intro (show ws.length - (k + 1) < ws.length - k by omega) ?_)
                  · show (p.1, lo.2) = loQ v0 (ws.take (k + 1))
                    rw [evs, loQ_snoc, ← elo']
                    unfold minR
                    rw [h0, h1]
                    rfl
                  · show (hi.1, hi.2) = hiQ v0 (ws.take (k + 1))
                    rw [evs, hiQ_snoc, ← ehi']
                    unfold maxR
                    rw [h2, h3]
                    rfl
                  · repeat first | exact trivial | refine And.intro rfl ?_ | refine And.intro trivial ?_ | refine And.intro (And.intro rfl trivial) ?_ | refine And.intro (And.intro rfl (And.intro rfl trivial)) ?_
                    exact And.intro (avI (show IntKind.i64.wrap (((k + 1 : Nat) : Int) + 1) = ((k + 1 + 1 : Nat) : Int) by rw [wI (by omega) (by omega)]; omega)) trivial
          · have h0 : decide (p.1 < lo.1) = false := cneg hc
            repeat first | refine And.intro rfl ?_ | refine Or.inl (And.intro rfl ?_) | refine Or.inr (And.intro rfl ?_) | refine And.intro (fun (_ : true = true) => ?_) (fun (h : true = false) => Bool.noConfusion h) | refine And.intro (fun (h : false = true) => Bool.noConfusion h) (fun (_ : false = false) => ?_)
            refine And.intro hix ?_
            rw [g1]
            repeat first | refine And.intro rfl ?_ | refine Or.inl (And.intro rfl ?_) | refine Or.inr (And.intro rfl ?_) | refine And.intro (fun (_ : true = true) => ?_) (fun (h : true = false) => Bool.noConfusion h) | refine And.intro (fun (h : false = true) => Bool.noConfusion h) (fun (_ : false = false) => ?_)
            refine And.intro (show (dg p.2.num.natAbs).length ≤ 40000 ∧ (dg p.2.den).length ≤ 40000 ∧ (dg lo.2.num.natAbs).length ≤ 40000 ∧ (dg lo.2.den).length ≤ 40000 from ⟨sp.2.lenN (by decide), sp.2.lenD (by decide), slo.2.lenN (by decide), slo.2.lenD (by decide)⟩) ?_
            repeat first | refine And.intro rfl ?_ | refine Or.inl (And.intro rfl ?_) | refine Or.inr (And.intro rfl ?_) | refine And.intro (fun (_ : true = true) => ?_) (fun (h : true = false) => Bool.noConfusion h) | refine And.intro (fun (h : false = true) => Bool.noConfusion h) (fun (_ : false = false) => ?_)
            refine And.intro (fun hc => ?_) (fun hc => ?_)
            · have h1 : decide (p.2 < lo.2) = true := cneg hc
              repeat first | refine And.intro rfl ?_ | refine Or.inl (And.intro rfl ?_) | refine Or.inr (And.intro rfl ?_) | refine And.intro (fun (_ : true = true) => ?_) (fun (h : true = false) => Bool.noConfusion h) | refine And.intro (fun (h : false = true) => Bool.noConfusion h) (fun (_ : false = false) => ?_)
              refine And.intro hix ?_
              rw [g1]
              repeat first | refine And.intro rfl ?_ | refine Or.inl (And.intro rfl ?_) | refine Or.inr (And.intro rfl ?_) | refine And.intro (fun (_ : true = true) => ?_) (fun (h : true = false) => Bool.noConfusion h) | refine And.intro (fun (h : false = true) => Bool.noConfusion h) (fun (_ : false = false) => ?_)
              refine And.intro hix ?_
              rw [g1]
              repeat first | refine And.intro rfl ?_ | refine Or.inl (And.intro rfl ?_) | refine Or.inr (And.intro rfl ?_) | refine And.intro (fun (_ : true = true) => ?_) (fun (h : true = false) => Bool.noConfusion h) | refine And.intro (fun (h : false = true) => Bool.noConfusion h) (fun (_ : false = false) => ?_)
              refine And.intro (show (dg p.1.num.natAbs).length ≤ 40000 ∧ (dg p.1.den).length ≤ 40000 ∧ (dg hi.1.num.natAbs).length ≤ 40000 ∧ (dg hi.1.den).length ≤ 40000 from ⟨sp.1.lenN (by decide), sp.1.lenD (by decide), shi.1.lenN (by decide), shi.1.lenD (by decide)⟩) ?_
              repeat first | refine And.intro rfl ?_ | refine Or.inl (And.intro rfl ?_) | refine Or.inr (And.intro rfl ?_) | refine And.intro (fun (_ : true = true) => ?_) (fun (h : true = false) => Bool.noConfusion h) | refine And.intro (fun (h : false = true) => Bool.noConfusion h) (fun (_ : false = false) => ?_)
              refine And.intro (fun hc => ?_) (fun hc => ?_)
              · have h2 : decide (hi.1 < p.1) = true := cpos hc
                repeat first | refine And.intro rfl ?_ | refine Or.inl (And.intro rfl ?_) | refine Or.inr (And.intro rfl ?_) | refine And.intro (fun (_ : true = true) => ?_) (fun (h : true = false) => Bool.noConfusion h) | refine And.intro (fun (h : false = true) => Bool.noConfusion h) (fun (_ : false = false) => ?_)
                refine And.intro hix ?_
                rw [g1]
                repeat first | refine And.intro rfl ?_ | refine Or.inl (And.intro rfl ?_) | refine Or.inr (And.intro rfl ?_) | refine And.intro (fun (_ : true = true) => ?_) (fun (h : true = false) => Bool.noConfusion h) | refine And.intro (fun (h : false = true) => Bool.noConfusion h) (fun (_ : false = false) => ?_)
                refine And.intro hix ?_
                rw [g1]
                repeat first | refine And.intro rfl ?_ | refine Or.inl (And.intro rfl ?_) | refine Or.inr (And.intro rfl ?_) | refine And.intro (fun (_ : true = true) => ?_) (fun (h : true = false) => Bool.noConfusion h) | refine And.intro (fun (h : false = true) => Bool.noConfusion h) (fun (_ : false = false) => ?_)
                refine And.intro (show (dg p.2.num.natAbs).length ≤ 40000 ∧ (dg p.2.den).length ≤ 40000 ∧ (dg hi.2.num.natAbs).length ≤ 40000 ∧ (dg hi.2.den).length ≤ 40000 from ⟨sp.2.lenN (by decide), sp.2.lenD (by decide), shi.2.lenN (by decide), shi.2.lenD (by decide)⟩) ?_
                repeat first | refine And.intro rfl ?_ | refine Or.inl (And.intro rfl ?_) | refine Or.inr (And.intro rfl ?_) | refine And.intro (fun (_ : true = true) => ?_) (fun (h : true = false) => Bool.noConfusion h) | refine And.intro (fun (h : false = true) => Bool.noConfusion h) (fun (_ : false = false) => ?_)
                refine And.intro (fun hc => ?_) (fun hc => ?_)
                · have h3 : decide (hi.2 < p.2) = true := cpos hc
                  repeat first | refine And.intro rfl ?_ | refine Or.inl (And.intro rfl ?_) | refine Or.inr (And.intro rfl ?_) | refine And.intro (fun (_ : true = true) => ?_) (fun (h : true = false) => Bool.noConfusion h) | refine And.intro (fun (h : false = true) => Bool.noConfusion h) (fun (_ : false = false) => ?_)
                  refine And.intro hix ?_
                  rw [g1]
                  repeat first | refine And.intro rfl ?_ | refine Or.inl (And.intro rfl ?_) | refine Or.inr (And.intro rfl ?_) | refine And.intro (fun (_ : true = true) => ?_) (fun (h : true = false) => Bool.noConfusion h) | refine And.intro (fun (h : false = true) => Bool.noConfusion h) (fun (_ : false = false) => ?_)
                  refine Exists.intro ⟨(k + 1, (lo.1, p.2), (p.1, p.2)), (show k + 1 ≤ _ by omega), ⟨⟨slo.1, sp.2⟩, ⟨sp.1, sp.2⟩⟩, ?_, ?_⟩ (And.intro (show ws.length - (k + 1) < ws.length - k by omega) ?_)
                  · show (lo.1, p.2) = loQ v0 (ws.take (k + 1))
                    rw [evs, loQ_snoc, ← elo']
                    unfold minR
                    rw [h0, h1]
                    rfl
                  · show (p.1, p.2) = hiQ v0 (ws.take (k + 1))
                    rw [evs, hiQ_snoc, ← ehi']
                    unfold maxR
                    rw [h2, h3]
                    rfl
                  · repeat first | exact trivial | refine And.intro rfl ?_ | refine And.intro trivial ?_ | refine And.intro (And.intro rfl trivial) ?_ | refine And.intro (And.intro rfl (And.intro rfl trivial)) ?_
                    exact And.intro (avI (show IntKind.i64.wrap (((k + 1 : Nat) : Int) + 1) = ((k + 1 + 1 : Nat) : Int) by rw [wI (by omega) (by omega)]; omega)) trivial
                · have h3 : decide (hi.2 < p.2) = false := cpos hc
                  repeat first | refine And.intro rfl ?_ | refine Or.inl (And.intro rfl ?_) | refine Or.inr (And.intro rfl ?_) | refine And.intro (fun (_ : true = true) => ?_) (fun (h : true = false) => Bool.noConfusion h) | refine And.intro (fun (h : false = true) => Bool.noConfusion h) (fun (_ : false = false) => ?_)
                  refine Exists.intro ⟨(k + 1, (lo.1, p.2), (p.1, hi.2)), (show k + 1 ≤ _ by omega), ⟨⟨slo.1, sp.2⟩, ⟨sp.1, shi.2⟩⟩, ?_, ?_⟩ (And.intro (show ws.length - (k + 1) < ws.length - k by omega) ?_)
                  · show (lo.1, p.2) = loQ v0 (ws.take (k + 1))
                    rw [evs, loQ_snoc, ← elo']
                    unfold minR
                    rw [h0, h1]
                    rfl
                  · show (p.1, hi.2) = hiQ v0 (ws.take (k + 1))
                    rw [evs, hiQ_snoc, ← ehi']
                    unfold maxR
                    rw [h2, h3]
                    rfl
                  · repeat first | exact trivial | refine And.intro rfl ?_ | refine And.intro trivial ?_ | refine And.intro (And.intro rfl trivial) ?_ | refine And.intro (And.intro rfl (And.intro rfl trivial)) ?_
                    exact And.intro (avI (show IntKind.i64.wrap (((k + 1 : Nat) : Int) + 1) = ((k + 1 + 1 : Nat) : Int) by rw [wI (by omega) (by omega)]; omega)) trivial
              · have h2 : decide (hi.1 < p.1) = false := cpos hc
                repeat first | refine And.intro rfl ?_ | refine Or.inl (And.intro rfl ?_) | refine Or.inr (And.intro rfl ?_) | refine And.intro (fun (_ : true = true) => ?_) (fun (h : true = false) => Bool.noConfusion h) | refine And.intro (fun (h : false = true) => Bool.noConfusion h) (fun (_ : false = false) => ?_)
                refine And.intro hix ?_
                rw [g1]
                repeat first | refine And.intro rfl ?_ | refine Or.inl (And.intro rfl ?_) | refine Or.inr (And.intro rfl ?_) | refine And.intro (fun (_ : true = true) => ?_) (fun (h : true = false) => Bool.noConfusion h) | refine And.intro (fun (h : false = true) => Bool.noConfusion h) (fun (_ : false = false) => ?_)
                refine And.intro (show (dg p.2.num.natAbs).length ≤ 40000 ∧ (dg p.2.den).length ≤ 40000 ∧ (dg hi.2.num.natAbs).length ≤ 40000 ∧ (dg hi.2.den).length ≤ 40000 from ⟨sp.2.lenN (by decide), sp.2.lenD (by decide), shi.2.lenN (by decide), shi.2.lenD (by decide)⟩) ?_
                repeat first | refine And.intro rfl ?_ | refine Or.inl (And.intro rfl ?_) | refine Or.inr (And.intro rfl ?_) | refine And.intro (fun (_ : true = true) => ?_) (fun (h : true = false) => Bool.noConfusion h) | refine And.intro (fun (h : false = true) => Bool.noConfusion h) (fun (_ : false = false) => ?_)
                refine And.intro (fun hc => ?_) (fun hc => ?_)
                · have h3 : decide (hi.2 < p.2) = true := cpos hc
                  repeat first | refine And.intro rfl ?_ | refine Or.inl (And.intro rfl ?_) | refine Or.inr (And.intro rfl ?_) | refine And.intro (fun (_ : true = true) => ?_) (fun (h : true = false) => Bool.noConfusion h) | refine And.intro (fun (h : false = true) => Bool.noConfusion h) (fun (_ : false = false) => ?_)
                  refine And.intro hix ?_
                  rw [g1]
                  repeat first | refine And.intro rfl ?_ | refine Or.inl (And.intro rfl ?_) | refine Or.inr (And.intro rfl ?_) | refine And.intro (fun (_ : true = true) => ?_) (fun (h : true = false) => Bool.noConfusion h) | refine And.intro (fun (h : false = true) => Bool.noConfusion h) (fun (_ : false = false) => ?_)
                  refine Exists.intro ⟨(k + 1, (lo.1, p.2), (hi.1, p.2)), (show k + 1 ≤ _ by omega), ⟨⟨slo.1, sp.2⟩, ⟨shi.1, sp.2⟩⟩, ?_, ?_⟩ (And.intro (show ws.length - (k + 1) < ws.length - k by omega) ?_)
                  · show (lo.1, p.2) = loQ v0 (ws.take (k + 1))
                    rw [evs, loQ_snoc, ← elo']
                    unfold minR
                    rw [h0, h1]
                    rfl
                  · show (hi.1, p.2) = hiQ v0 (ws.take (k + 1))
                    rw [evs, hiQ_snoc, ← ehi']
                    unfold maxR
                    rw [h2, h3]
                    rfl
                  · repeat first | exact trivial | refine And.intro rfl ?_ | refine And.intro trivial ?_ | refine And.intro (And.intro rfl trivial) ?_ | refine And.intro (And.intro rfl (And.intro rfl trivial)) ?_
                    exact And.intro (avI (show IntKind.i64.wrap (((k + 1 : Nat) : Int) + 1) = ((k + 1 + 1 : Nat) : Int) by rw [wI (by omega) (by omega)]; omega)) trivial
                · have h3 : decide (hi.2 < p.2) = false := cpos hc
                  repeat first | refine And.intro rfl ?_ | refine Or.inl (And.intro rfl ?_) | refine Or.inr (And.intro rfl ?_) | refine And.intro (fun (_ : true = true) => ?_) (fun (h : true = false) => Bool.noConfusion h) | refine And.intro (fun (h : false = true) => Bool.noConfusion h) (fun (_ : false = false) => ?_)
                  refine Exists.intro ⟨(k + 1, (lo.1, p.2), (hi.1, hi.2)), (show k + 1 ≤ _ by omega), ⟨⟨slo.1, sp.2⟩, ⟨shi.1, shi.2⟩⟩, ?_, ?_⟩ (And.intro (show ws.length - (k + 1) < ws.length - k by omega) ?_)
                  · show (lo.1, p.2) = loQ v0 (ws.take (k + 1))
                    rw [evs, loQ_snoc, ← elo']
                    unfold minR
                    rw [h0, h1]
                    rfl
                  · show (hi.1, hi.2) = hiQ v0 (ws.take (k + 1))
                    rw [evs, hiQ_snoc, ← ehi']
                    unfold maxR
                    rw [h2, h3]
                    rfl
                  · repeat first | exact trivial | refine And.intro rfl ?_ | refine And.intro trivial ?_ | refine And.intro (And.intro rfl trivial) ?_ | refine And.intro (And.intro rfl (And.intro rfl trivial)) ?_
                    exact And.intro (avI (show IntKind.i64.wrap (((k + 1 : Nat) : Int) + 1) = ((k + 1 + 1 : Nat) : Int) by rw [wI (by omega) (by omega)]; omega)) trivial
            · have h1 : decide (p.2 < lo.2) = false := cneg hc
              repeat first | refine And.intro rfl ?_ | refine Or.inl (And.intro rfl ?_) | refine Or.inr (And.intro rfl ?_) | refine And.intro (fun (_ : true = true) => ?_) (fun (h : true = false) => Bool.noConfusion h) | refine And.intro (fun (h : false = true) => Bool.noConfusion h) (fun (_ : false = false) => ?_)
              refine And.intro hix ?_
              rw [g1]
              repeat first | refine And.intro rfl ?_ | refine Or.inl (And.intro rfl ?_) | refine Or.inr (And.intro rfl ?_) | refine And.intro (fun (_ : true = true) => ?_) (fun (h : true = false) => Bool.noConfusion h) | refine And.intro (fun (h : false = true) => Bool.noConfusion h) (fun (_ : false = false) => ?_)
              refine And.intro (show (dg p.1.num.natAbs).length ≤ 40000 ∧ (dg p.1.den).length ≤ 40000 ∧ (dg hi.1.num.natAbs).length ≤ 40000 ∧ (dg hi.1.den).length ≤ 40000 from ⟨sp.1.lenN (by decide), sp.1.lenD (by decide), shi.1.lenN (by decide), shi.1.lenD (by decide)⟩) ?_
              repeat first | refine And.intro rfl ?_ | refine Or.inl (And.intro rfl ?_) | refine Or.inr (And.intro rfl ?_) | refine And.intro (fun (_ : true = true) => ?_) (fun (h : true = false) => Bool.noConfusion h) | refine And.intro (fun (h : false = true) => Bool.noConfusion h) (fun (_ : false = false) => ?_)
              refine And.intro (fun hc => ?_) (fun hc => ?_)
              · have h2 : decide (hi.1 < p.1) = true := cpos hc
                repeat first | refine And.intro rfl ?_ | refine Or.inl (And.intro rfl ?_) | refine Or.inr (And.intro rfl ?_) | refine And.intro (fun (_ : true = true) => ?_) (fun (h : true = false) => Bool.noConfusion h) | refine And.intro (fun (h : false = true) => Bool.noConfusion h) (fun (_ : false = false) => ?_)
                refine And.intro hix ?_
                rw [g1]
                repeat first | refine And.intro rfl ?_ | refine Or.inl (And.intro rfl ?_) | refine Or.inr (And.intro rfl ?_) | refine And.intro (fun (_ : true = true) => ?_) (fun (h : true = false) => Bool.noConfusion h) | refine And.intro (fun (h : false = true) => Bool.noConfusion h) (fun (_ : false = false) => ?_)
                refine And.intro hix ?_
                rw [g1]
                repeat first | refine And.intro rfl ?_ | refine Or.inl (And.intro rfl ?_) | refine Or.inr (And.intro rfl ?_) | refine And.intro (fun (_ : true = true) => ?_) (fun (h : true = false) => Bool.noConfusion h) | refine And.intro (fun (h : false = true) => Bool.noConfusion h) (fun (_ : false = false) => ?_)
                refine And.intro (show (dg p.2.num.natAbs).length ≤ 40000 ∧ (dg p.2.den).length ≤ 40000 ∧ (dg hi.2.num.natAbs).length ≤ 40000 ∧ (dg hi.2.den).length ≤ 40000 from ⟨sp.2.lenN (by decide), sp.2.lenD (by decide), shi.2.lenN (by decide), shi.2.lenD (by decide)⟩) ?_
                repeat first | refine And.intro rfl ?_ | refine Or.inl (And.intro rfl ?_) | refine Or.inr (And.intro rfl ?_) | refine And.intro (fun (_ : true = true) => ?_) (fun (h : true = false) => Bool.noConfusion h) | refine And.intro (fun (h : false = true) => Bool.noConfusion h) (fun (_ : false = false) => ?_)
                refine And.intro (fun hc => ?_) (fun hc => ?_)
                · have h3 : decide (hi.2 < p.2) = true := cpos hc
                  repeat first | refine And.intro rfl ?_ | refine Or.inl (And.intro rfl ?_) | refine Or.inr (And.intro rfl ?_) | refine And.intro (fun (_ : true = true) => ?_) (fun (h : true = false) => Bool.noConfusion h) | refine And.intro (fun (h : false = true) => Bool.noConfusion h) (fun (_ : false = false) => ?_)
                  refine And.intro hix ?_
                  rw [g1]
                  repeat first | refine And.intro rfl ?_ | refine Or.inl (And.intro rfl ?_) | refine Or.inr (And.intro rfl ?_) | refine And.intro (fun (_ : true = true) => ?_) (fun (h : true = false) => Bool.noConfusion h) | refine And.intro (fun (h : false = true) => Bool.noConfusion h) (fun (_ : false = false) => ?_)
                  refine Exists.intro ⟨(k + 1, (lo.1, lo.2), (p.1, p.2)), (show k + 1 ≤ _ by omega), ⟨⟨slo.1, slo.2⟩, ⟨sp.1, sp.2⟩⟩, ?_, ?_⟩ (And.intro (show ws.length - (k + 1) < ws.length - k by omega) ?_)
                  · show (lo.1, lo.2) = loQ v0 (ws.take (k + 1))
                    rw [evs, loQ_snoc, ← elo']
                    unfold minR
                    rw [h0, h1]
                    rfl
                  · show (p.1, p.2) = hiQ v0 (ws.take (k + 1))
                    rw [evs, hiQ_snoc, ← ehi']
                    unfold maxR
                    rw [h2, h3]
                    rfl
                  · repeat first | exact trivial | refine And.intro rfl ?_ | refine And.intro trivial ?_ | refine And.intro (And.intro rfl trivial) ?_ | refine And.intro (And.intro rfl (And.intro rfl trivial)) ?_
                    exact And.intro (avI (show IntKind.i64.wrap (((k + 1 : Nat) : Int) + 1) = ((k + 1 + 1 : Nat) : Int) by rw [wI (by omega) (by omega)]; omega)) trivial
                · have h3 : decide (hi.2 < p.2) = false := cpos hc
                  repeat first | refine And.intro rfl ?_ | refine Or.inl (And.intro rfl ?_) | refine Or.inr (And.intro rfl ?_) | refine And.intro (fun (_ : true = true) => ?_) (fun (h : true = false) => Bool.noConfusion h) | refine And.intro (fun (h : false = true) => Bool.noConfusion h) (fun (_ : false = false) => ?_)
                  refine Exists.intro ⟨(k + 1, (lo.1, lo.2), (p.1, hi.2)), (show k + 1 ≤ _ by omega), ⟨⟨slo.1, slo.2⟩, ⟨sp.1, shi.2⟩⟩, ?_, ?_⟩ (And.intro (show ws.length - (k + 1) < ws.length - k by omega) ?_)
                  · show (lo.1, lo.2) = loQ v0 (ws.take (k + 1))
                    rw [evs, loQ_snoc, ← elo']
                    unfold minR
                    rw [h0, h1]
                    rfl
                  · show (p.1, hi.2) = hiQ v0 (ws.take (k + 1))
                    rw [evs, hiQ_snoc, ← ehi']
                    unfold maxR
                    rw [h2, h3]
                    rfl
                  · repeat first | exact trivial | refine And.intro rfl ?_ | refine And.intro trivial ?_ | refine And.intro (And.intro rfl trivial) ?_ | refine And.intro (And.intro rfl (And.intro rfl trivial)) ?_
                    exact And.intro (avI (show IntKind.i64.wrap (((k + 1 : Nat) : Int) + 1) = ((k + 1 + 1 : Nat) : Int) by rw [wI (by omega) (by omega)]; omega)) trivial
              · have h2 : decide (hi.1 < p.1) = false := cpos hc
                repeat first | refine And.intro rfl ?_ | refine Or.inl (And.intro rfl ?_) | refine Or.inr (And.intro rfl ?_) | refine And.intro (fun (_ : true = true) => ?_) (fun (h : true = false) => Bool.noConfusion h) | refine And.intro (fun (h : false = true) => Bool.noConfusion h) (fun (_ : false = false) => ?_)
                refine And.intro hix ?_
                rw [g1]
                repeat first | refine And.intro rfl ?_ | refine Or.inl (And.intro rfl ?_) | refine Or.inr (And.intro rfl ?_) | refine And.intro (fun (_ : true = true) => ?_) (fun (h : true = false) => Bool.noConfusion h) | refine And.intro (fun (h : false = true) => Bool.noConfusion h) (fun (_ : false = false) => ?_)
                refine And.intro (show (dg p.2.num.natAbs).length ≤ 40000 ∧ (dg p.2.den).length ≤ 40000 ∧ (dg hi.2.num.natAbs).length ≤ 40000 ∧ (dg hi.2.den).length ≤ 40000 from ⟨sp.2.lenN (by decide), sp.2.lenD (by decide), shi.2.lenN (by decide), shi.2.lenD (by decide)⟩) ?_
                repeat first | refine And.intro rfl ?_ | refine Or.inl (And.intro rfl ?_) | refine Or.inr (And.intro rfl ?_) | refine And.intro (fun (_ : true = true) => ?_) (fun (h : true = false) => Bool.noConfusion h) | refine And.intro (fun (h : false = true) => Bool.noConfusion h) (fun (_ : false = false) => ?_)
                refine And.intro (fun hc => ?_) (fun hc => ?_)
                · have h3 : decide (hi.2 < p.2) = true := cpos hc
                  repeat first | refine And.intro rfl ?_ | refine Or.inl (And.intro rfl ?_) | refine Or.inr (And.intro rfl ?_) | refine And.intro (fun (_ : true = true) => ?_) (fun (h : true = false) => Bool.noConfusion h) | refine And.intro (fun (h : false = true) => Bool.noConfusion h) (fun (_ : false = false) => ?_)
                  refine And.intro hix ?_
                  rw [g1]
                  repeat first | refine And.intro rfl ?_ | refine Or.inl (And.intro rfl ?_) | refine Or.inr (And.intro rfl ?_) | refine And.intro (fun (_ : true = true) => ?_) (fun (h : true = false) => Bool.noConfusion h) | refine And.intro (fun (h : false = true) => Bool.noConfusion h) (fun (_ : false = false) => ?_)
                  refine Exists.intro ⟨(k + 1, (lo.1, lo.2), (hi.1, p.2)), (show k + 1 ≤ _ by omega), ⟨⟨slo.1, slo.2⟩, ⟨shi.1, sp.2⟩⟩, ?_, ?_⟩ (And.intro (show ws.length - (k + 1) < ws.length - k by omega) ?_)
                  · show (lo.1, lo.2) = loQ v0 (ws.take (k + 1))
                    rw [evs, loQ_snoc, ← elo']
                    unfold minR
                    rw [h0, h1]
                    rfl
                  · show (hi.1, p.2) = hiQ v0 (ws.take (k + 1))
                    rw [evs, hiQ_snoc, ← ehi']
                    unfold maxR
                    rw [h2, h3]
                    rfl
                  · repeat first | exact trivial | refine And.intro rfl ?_ | refine And.intro trivial ?_ | refine And.intro (And.intro rfl trivial) ?_ | refine And.intro (And.intro rfl (And.intro rfl trivial)) ?_
                    exact And.intro (avI (show IntKind.i64.wrap (((k + 1 : Nat) : Int) + 1) = ((k + 1 + 1 : Nat) : Int) by rw [wI (by omega) (by omega)]; omega)) trivial
                · have h3 : decide (hi.2 < p.2) = false := cpos hc
                  repeat first | refine And.intro rfl ?_ | refine Or.inl (And.intro rfl ?_) | refine Or.inr (And.intro rfl ?_) | refine And.intro (fun (_ : true = true) => ?_) (fun (h : true = false) => Bool.noConfusion h) | refine And.intro (fun (h : false = true) => Bool.noConfusion h) (fun (_ : false = false) => ?_)
                  refine Exists.intro ⟨(k + 1, (lo.1, lo.2), (hi.1, hi.2)), (show k + 1 ≤ _ by omega), ⟨⟨slo.1, slo.2⟩, ⟨shi.1, shi.2⟩⟩, ?_, ?_⟩ (And.intro (show ws.length - (k + 1) < ws.length - k by omega) ?_)
                  · show (lo.1, lo.2) = loQ v0 (ws.take (k + 1))
                    rw [evs, loQ_snoc, ← elo']
                    unfold minR
                    rw [h0, h1]
                    rfl
                  · show (hi.1, hi.2) = hiQ v0 (ws.take (k + 1))
                    rw [evs, hiQ_snoc, ← ehi']
                    unfold maxR
                    rw [h2, h3]
                    rfl
                  · repeat first | exact trivial | refine And.intro rfl ?_ | refine And.intro trivial ?_ | refine And.intro (And.intro rfl trivial) ?_ | refine And.intro (And.intro rfl (And.intro rfl trivial)) ?_
                    exact And.intro (avI (show IntKind.i64.wrap (((k + 1 : Nat) : Int) + 1) = ((k + 1 + 1 : Nat) : Int) by rw [wI (by omega) (by omega)]; omega)) trivial
        · have hk' : ¬ ((k + 1 : Nat) : Int) < (((nB (v0 :: ws)).length : Nat) : Int) := of_decide_eq_false hc
          rw [nB_len, List.length_cons] at hk'
          rw [List.take_of_length_le (by omega)] at elo' ehi'
          repeat first | refine And.intro rfl ?_ | refine Or.inl (And.intro rfl ?_) | refine Or.inr (And.intro rfl ?_) | refine And.intro (fun (_ : true = true) => ?_) (fun (h : true = false) => Bool.noConfusion h) | refine And.intro (fun (h : false = true) => Bool.noConfusion h) (fun (_ : false = false) => ?_)
          repeat first | refine And.intro rfl ?_ | refine And.intro True.intro ?_ | refine Or.inl (And.intro rfl ?_) | refine Or.inr (And.intro rfl ?_) | refine And.intro (fun (_ : true = true) => ?_) (fun (h : true = false) => Bool.noConfusion h) | refine And.intro (fun (h : false = true) => Bool.noConfusion h) (fun (_ : false = false) => ?_)
          exact resBx (p := lo) (q := hi) elo' ehi'
  · cases h

end Go.Gm
