/-
  The curves of the reference: valid, norm, divide, At. Plain theorems; no condition.
-/
import Derived.Test.YtihmifpdnipdmaaR8
import Derived.Test.YtihmifpdnipdmaaLawSr
set_option linter.all false
namespace Go.Gm
open Go.Proofs

def TY0 : Table := [(70, sPtOn), (103, sRatNorm), (125, sRatOf)]
theorem TY0_ok : TabOk TY0 := TabOk.cons ok_r8On (TabOk.cons ok_kNorm (TabOk.cons ok_kOf TabOk.nil))

theorem ok_yValid : Ok1 135 sValid := by
  refine ok_of TY0_ok Try.func135 rfl (by kernel_rfl) ?_
  intro xs pre res h hp hlim
  unfold sValid at h
  split at h
  · rename_i c
    cases h
    refine And.intro (Nat.le_of_ble_eq_true rfl) ?_
    repeat first | refine And.intro rfl ?_ | refine Or.inl (And.intro rfl ?_) | refine Or.inr (And.intro rfl ?_) | refine And.intro (fun (_ : true = true) => ?_) (fun (h : true = false) => Bool.noConfusion h) | refine And.intro (fun (h : false = true) => Bool.noConfusion h) (fun (_ : false = false) => ?_)
    by_cases h2 : 2 ≤ c.length
    · refine Or.inl (And.intro (decide_eq_true (show (c.length : Int) ≥ 2 by omega)) ?_)
      repeat first | refine And.intro rfl ?_ | refine Or.inl (And.intro rfl ?_) | refine Or.inr (And.intro rfl ?_) | refine And.intro (fun (_ : true = true) => ?_) (fun (h : true = false) => Bool.noConfusion h) | refine And.intro (fun (h : false = true) => Bool.noConfusion h) (fun (_ : false = false) => ?_)
      refine resB ?_
      by_cases h4 : c.length ≤ 4
      · rw [decide_eq_true (show (c.length : Int) ≤ 4 by omega), decide_eq_true ⟨h2, h4⟩]
      · rw [decide_eq_false (show ¬ (c.length : Int) ≤ 4 by omega), decide_eq_false (fun h => h4 h.2)]
    · refine Or.inr (And.intro (decide_eq_false (show ¬ (c.length : Int) ≥ 2 by omega)) ?_)
      repeat first | refine And.intro rfl ?_ | refine Or.inl (And.intro rfl ?_) | refine Or.inr (And.intro rfl ?_) | refine And.intro (fun (_ : true = true) => ?_) (fun (h : true = false) => Bool.noConfusion h) | refine And.intro (fun (h : false = true) => Bool.noConfusion h) (fun (_ : false = false) => ?_)
      exact resB (decide_eq_false (fun h => h2 h.1)).symm
  · cases h

def sNorm9 : List RV → Option (Prop × Res)
  | [.one (.sl 6 c)] => some (ShP 60000 c ∧ c.length ≤ 1000, .r (.one (.sl 6 (nB (valsOf c)))))
  | _ => none

set_option maxHeartbeats 1000000 in
theorem ok_yNorm : Ok1 136 sNorm9 := by
  refine ok_of TY0_ok Try.func136 rfl (by kernel_rfl) ?_
  intro xs pre res h hp hlim
  unfold sNorm9 at h
  split at h
  · rename_i c
    cases h
    obtain ⟨hsh, hp1⟩ := hp
    obtain ⟨ps, rfl, hps, hpl⟩ := sh_le hsh
    rw [← hpl] at hp1
    rw [valsOf_B]
    obtain ⟨vs, hvs⟩ : ∃ vs, vs = ps.map PR.v := ⟨_, rfl⟩
    have hvl : vs.length = ps.length := by rw [hvs, List.length_map]
    rw [← hvs]
    refine And.intro (Nat.le_of_ble_eq_true rfl) ?_
    repeat first | refine And.intro rfl ?_ | refine Or.inl (And.intro rfl ?_) | refine Or.inr (And.intro rfl ?_) | refine And.intro (fun (_ : true = true) => ?_) (fun (h : true = false) => Bool.noConfusion h) | refine And.intro (fun (h : false = true) => Bool.noConfusion h) (fun (_ : false = false) => ?_)
    repeat first | refine And.intro rfl ?_ | refine Or.inl (And.intro rfl ?_) | refine Or.inr (And.intro rfl ?_) | refine And.intro (fun (_ : true = true) => ?_) (fun (h : true = false) => Bool.noConfusion h) | refine And.intro (fun (h : false = true) => Bool.noConfusion h) (fun (_ : false = false) => ?_)
    refine Exists.intro {k : Nat // k ≤ ps.length} (Exists.intro (fun k => ⟨[(0, .one (.sl 6 (ps.map ptB))), (3, .own 0), (4, .val (.int .i64 (k.1 : Nat)))], ⟨[], [.s 38 6 (nB (vs.take k.1))]⟩⟩) (Exists.intro (fun k => ps.length - k.1) (Exists.intro ⟨0, by omega⟩ (And.intro ?_ ?_))))
    · repeat first | exact trivial | refine And.intro rfl ?_ | refine And.intro trivial ?_ | refine And.intro (And.intro rfl trivial) ?_ | refine And.intro (And.intro rfl (And.intro rfl trivial)) ?_
    · rintro ⟨k, hk⟩
      repeat first | refine And.intro rfl ?_ | refine Or.inl (And.intro rfl ?_) | refine Or.inr (And.intro rfl ?_) | refine And.intro (fun (_ : true = true) => ?_) (fun (h : true = false) => Bool.noConfusion h) | refine And.intro (fun (h : false = true) => Bool.noConfusion h) (fun (_ : false = false) => ?_)
      refine And.intro (fun hc => ?_) (fun hc => ?_)
      · have hk' : (k : Int) < (((ps.map ptB).length : Nat) : Int) := of_decide_eq_true hc
        rw [List.length_map] at hk'
        have g1 : (ps.map ptB).getD (k : Int).toNat [] = ptB (ps.getD k PR.zero) := getD_ptB ps k (by omega)
        have k1 := (hps _ (getD_mem' ps k PR.zero (by omega))).mono (show 60000 ≤ 80000 by decide)
        have e1 : vs.getD k (0, 0) = (ps.getD k PR.zero).v := by rw [hvs, getD_v ps k (by omega)]
        generalize ps.getD k PR.zero = p at g1 k1 e1
        repeat first | refine And.intro rfl ?_ | refine Or.inl (And.intro rfl ?_) | refine Or.inr (And.intro rfl ?_) | refine And.intro (fun (_ : true = true) => ?_) (fun (h : true = false) => Bool.noConfusion h) | refine And.intro (fun (h : false = true) => Bool.noConfusion h) (fun (_ : false = false) => ?_)
        refine And.intro (show 0 ≤ (k : Int) ∧ (k : Int) < (((ps.map ptB).length : Nat) : Int) by rw [List.length_map]; omega) ?_
        rw [g1]
        repeat first | refine And.intro rfl ?_ | refine Or.inl (And.intro rfl ?_) | refine Or.inr (And.intro rfl ?_) | refine And.intro (fun (_ : true = true) => ?_) (fun (h : true = false) => Bool.noConfusion h) | refine And.intro (fun (h : false = true) => Bool.noConfusion h) (fun (_ : false = false) => ?_)
        refine And.intro (show p.l.length ≤ 80000 ∧ p.t.length ≤ 80000 ∧ DivFit (nv p.t) from ⟨k1.1, k1.2.1, trivial⟩) ?_
        repeat first | refine And.intro rfl ?_ | refine Or.inl (And.intro rfl ?_) | refine Or.inr (And.intro rfl ?_) | refine And.intro (fun (_ : true = true) => ?_) (fun (h : true = false) => Bool.noConfusion h) | refine And.intro (fun (h : false = true) => Bool.noConfusion h) (fun (_ : false = false) => ?_)
        refine And.intro (show 0 ≤ (k : Int) ∧ (k : Int) < (((ps.map ptB).length : Nat) : Int) by rw [List.length_map]; omega) ?_
        rw [g1]
        repeat first | refine And.intro rfl ?_ | refine Or.inl (And.intro rfl ?_) | refine Or.inr (And.intro rfl ?_) | refine And.intro (fun (_ : true = true) => ?_) (fun (h : true = false) => Bool.noConfusion h) | refine And.intro (fun (h : false = true) => Bool.noConfusion h) (fun (_ : false = false) => ?_)
        refine And.intro (show p.k.length ≤ 80000 ∧ p.u.length ≤ 80000 ∧ DivFit (nv p.u) from ⟨k1.2.2.1, k1.2.2.2, trivial⟩) ?_
        repeat first | refine And.intro rfl ?_ | refine Or.inl (And.intro rfl ?_) | refine Or.inr (And.intro rfl ?_) | refine And.intro (fun (_ : true = true) => ?_) (fun (h : true = false) => Bool.noConfusion h) | refine And.intro (fun (h : false = true) => Bool.noConfusion h) (fun (_ : false = false) => ?_)
        refine And.intro (show (nB (vs.take k)).length + 1 ≤ 1000000 by rw [nB_len, List.length_take]; omega) ?_
        repeat first | refine And.intro rfl ?_ | refine Or.inl (And.intro rfl ?_) | refine Or.inr (And.intro rfl ?_) | refine And.intro (fun (_ : true = true) => ?_) (fun (h : true = false) => Bool.noConfusion h) | refine And.intro (fun (h : false = true) => Bool.noConfusion h) (fun (_ : false = false) => ?_)
        refine Exists.intro ⟨k + 1, by omega⟩ (And.intro (show ps.length - (k + 1) < ps.length - k by omega) ?_)
        repeat first | exact trivial | refine And.intro rfl ?_ | refine And.intro trivial ?_ | refine And.intro (And.intro rfl trivial) ?_ | refine And.intro (And.intro rfl (And.intro rfl trivial)) ?_
        refine And.intro (And.intro (rwSl ?_) trivial) ?_
        · rw [nB_snoc _ _ (by omega), e1]
          rfl
        · repeat first | exact trivial | refine And.intro rfl ?_ | refine And.intro trivial ?_ | refine And.intro (And.intro rfl trivial) ?_ | refine And.intro (And.intro rfl (And.intro rfl trivial)) ?_
          exact And.intro (avI (show IntKind.i64.wrap ((k : Int) + 1) = ((k + 1 : Nat) : Int) by rw [wI (by omega) (by omega)]; omega)) trivial
      · have hk' : ¬ (k : Int) < (((ps.map ptB).length : Nat) : Int) := of_decide_eq_false hc
        rw [List.length_map] at hk'
        repeat first | refine And.intro rfl ?_ | refine Or.inl (And.intro rfl ?_) | refine Or.inr (And.intro rfl ?_) | refine And.intro (fun (_ : true = true) => ?_) (fun (h : true = false) => Bool.noConfusion h) | refine And.intro (fun (h : false = true) => Bool.noConfusion h) (fun (_ : false = false) => ?_)
        refine resSl ?_
        show nB (vs.take k) = nB vs
        rw [List.take_of_length_le (by omega)]
  · cases h

def sDivide9 : List RV → Option (Prop × Res)
  | [.one (.sl 6 c), .agg [.b (.val (.bool s)), .b (.nat l), .b (.nat t)]] => some (ShP 4000 c ∧ c.length ≤ 1000 ∧ l.length ≤ 4000 ∧ t.length ≤ 4000, .r (.one (.sl 6 (nB (divQ (valsOf c) (rq s l t))))))
  | _ => none

set_option maxHeartbeats 1000000 in
theorem ok_yDivide : Ok1 137 sDivide9 := by
  refine ok_of TY0_ok Try.func137 rfl (by kernel_rfl) ?_
  intro xs pre res h hp hlim
  unfold sDivide9 at h
  split at h
  · rename_i c s l t
    cases h
    obtain ⟨hsh, hp1, hp2, hp3⟩ := hp
    obtain ⟨ps, rfl, hps, hpl⟩ := sh_le hsh
    rw [← hpl] at hp1
    rw [valsOf_B]
    obtain ⟨vs, hvs⟩ : ∃ vs, vs = ps.map PR.v := ⟨_, rfl⟩
    have hvl : vs.length = ps.length := by rw [hvs, List.length_map]
    rw [← hvs]
    have hdl := divQ_len vs (rq s l t)
    have hat : ∀ k, k + 1 < ps.length → (divQ vs (rq s l t)).getD k (0, 0) = onP (ps.getD k PR.zero).v (ps.getD (k + 1) PR.zero).v (rq s l t) := by
      intro k hk
      rw [divQ_get _ _ _ _ (by omega), hvs, getD_v ps k (by omega), getD_v ps (k + 1) (by omega)]
    obtain ⟨D, hD⟩ : ∃ D, D = divQ vs (rq s l t) := ⟨_, rfl⟩
    rw [← hD] at hdl hat ⊢
    refine And.intro (Nat.le_of_ble_eq_true rfl) ?_
    repeat first | refine And.intro rfl ?_ | refine Or.inl (And.intro rfl ?_) | refine Or.inr (And.intro rfl ?_) | refine And.intro (fun (_ : true = true) => ?_) (fun (h : true = false) => Bool.noConfusion h) | refine And.intro (fun (h : false = true) => Bool.noConfusion h) (fun (_ : false = false) => ?_)
    repeat first | refine And.intro rfl ?_ | refine Or.inl (And.intro rfl ?_) | refine Or.inr (And.intro rfl ?_) | refine And.intro (fun (_ : true = true) => ?_) (fun (h : true = false) => Bool.noConfusion h) | refine And.intro (fun (h : false = true) => Bool.noConfusion h) (fun (_ : false = false) => ?_)
    refine Exists.intro {k : Nat // k ≤ ps.length - 1} (Exists.intro (fun k => ⟨[(0, .one (.sl 6 (ps.map ptB))), (3, .ptr 0 0), (5, .own 0), (6, .val (.int .i64 (k.1 : Nat)))], ⟨[(36, [.val (.bool s), .nat l, .nat t])], [.s 38 6 (nB (D.take k.1))]⟩⟩) (Exists.intro (fun k => ps.length - k.1) (Exists.intro ⟨0, by omega⟩ (And.intro ?_ ?_))))
    · repeat first | exact trivial | refine And.intro rfl ?_ | refine And.intro trivial ?_ | refine And.intro (And.intro rfl trivial) ?_ | refine And.intro (And.intro rfl (And.intro rfl trivial)) ?_
    · rintro ⟨k, hk⟩
      have hi1 : IntKind.i64.wrap ((k : Int) + 1) = ((k + 1 : Nat) : Int) := by rw [wI (by omega) (by omega)]; omega
      repeat first | refine And.intro rfl ?_ | refine Or.inl (And.intro rfl ?_) | refine Or.inr (And.intro rfl ?_) | refine And.intro (fun (_ : true = true) => ?_) (fun (h : true = false) => Bool.noConfusion h) | refine And.intro (fun (h : false = true) => Bool.noConfusion h) (fun (_ : false = false) => ?_)
      refine And.intro (fun hc => ?_) (fun hc => ?_)
      · have hk' : IntKind.i64.wrap ((k : Int) + 1) < (((ps.map ptB).length : Nat) : Int) := of_decide_eq_true hc
        rw [hi1, List.length_map] at hk'
        have g1 : (ps.map ptB).getD (k : Int).toNat [] = ptB (ps.getD k PR.zero) := getD_ptB ps k (by omega)
        have g2 : (ps.map ptB).getD (IntKind.i64.wrap ((k : Int) + 1)).toNat [] = ptB (ps.getD (k + 1) PR.zero) := by rw [hi1]; exact getD_ptB ps (k + 1) (by omega)
        have k1 := hps _ (getD_mem' ps k PR.zero (by omega))
        have k2 := hps _ (getD_mem' ps (k + 1) PR.zero (by omega))
        have e1 := hat k (by omega)
        generalize ps.getD k PR.zero = p at g1 k1 e1
        generalize ps.getD (k + 1) PR.zero = p2 at g2 k2 e1
        repeat first | refine And.intro rfl ?_ | refine Or.inl (And.intro rfl ?_) | refine Or.inr (And.intro rfl ?_) | refine And.intro (fun (_ : true = true) => ?_) (fun (h : true = false) => Bool.noConfusion h) | refine And.intro (fun (h : false = true) => Bool.noConfusion h) (fun (_ : false = false) => ?_)
        refine And.intro (show 0 ≤ (k : Int) ∧ (k : Int) < (((ps.map ptB).length : Nat) : Int) by rw [List.length_map]; omega) ?_
        rw [g1]
        repeat first | refine And.intro rfl ?_ | refine Or.inl (And.intro rfl ?_) | refine Or.inr (And.intro rfl ?_) | refine And.intro (fun (_ : true = true) => ?_) (fun (h : true = false) => Bool.noConfusion h) | refine And.intro (fun (h : false = true) => Bool.noConfusion h) (fun (_ : false = false) => ?_)
        refine And.intro (show 0 ≤ IntKind.i64.wrap ((k : Int) + 1) ∧ IntKind.i64.wrap ((k : Int) + 1) < (((ps.map ptB).length : Nat) : Int) by rw [hi1, List.length_map]; omega) ?_
        rw [g2]
        repeat first | refine And.intro rfl ?_ | refine Or.inl (And.intro rfl ?_) | refine Or.inr (And.intro rfl ?_) | refine And.intro (fun (_ : true = true) => ?_) (fun (h : true = false) => Bool.noConfusion h) | refine And.intro (fun (h : false = true) => Bool.noConfusion h) (fun (_ : false = false) => ?_)
        refine And.intro (And.intro k1.1 (And.intro k1.2.1 (And.intro k1.2.2.1 (And.intro k1.2.2.2 (And.intro k2.1 (And.intro k2.2.1 (And.intro k2.2.2.1 (And.intro k2.2.2.2 (And.intro hp2 hp3))))))))) ?_
        repeat first | refine And.intro rfl ?_ | refine Or.inl (And.intro rfl ?_) | refine Or.inr (And.intro rfl ?_) | refine And.intro (fun (_ : true = true) => ?_) (fun (h : true = false) => Bool.noConfusion h) | refine And.intro (fun (h : false = true) => Bool.noConfusion h) (fun (_ : false = false) => ?_)
        refine And.intro (show (nB (D.take k)).length + 1 ≤ 1000000 by rw [nB_len, List.length_take]; omega) ?_
        repeat first | refine And.intro rfl ?_ | refine Or.inl (And.intro rfl ?_) | refine Or.inr (And.intro rfl ?_) | refine And.intro (fun (_ : true = true) => ?_) (fun (h : true = false) => Bool.noConfusion h) | refine And.intro (fun (h : false = true) => Bool.noConfusion h) (fun (_ : false = false) => ?_)
        refine Exists.intro ⟨k + 1, by omega⟩ (And.intro (show ps.length - (k + 1) < ps.length - k by omega) ?_)
        repeat first | exact trivial | refine And.intro rfl ?_ | refine And.intro trivial ?_ | refine And.intro (And.intro rfl trivial) ?_ | refine And.intro (And.intro rfl (And.intro rfl trivial)) ?_
        refine And.intro (And.intro (rwSl ?_) trivial) ?_
        · rw [nB_snoc _ _ (by omega), e1]
          rfl
        · repeat first | exact trivial | refine And.intro rfl ?_ | refine And.intro trivial ?_ | refine And.intro (And.intro rfl trivial) ?_ | refine And.intro (And.intro rfl (And.intro rfl trivial)) ?_
          exact And.intro (avI hi1) trivial
      · have hk' : ¬ IntKind.i64.wrap ((k : Int) + 1) < (((ps.map ptB).length : Nat) : Int) := of_decide_eq_false hc
        rw [hi1, List.length_map] at hk'
        repeat first | refine And.intro rfl ?_ | refine Or.inl (And.intro rfl ?_) | refine Or.inr (And.intro rfl ?_) | refine And.intro (fun (_ : true = true) => ?_) (fun (h : true = false) => Bool.noConfusion h) | refine And.intro (fun (h : false = true) => Bool.noConfusion h) (fun (_ : false = false) => ?_)
        refine resSl ?_
        show nB (D.take k) = nB D
        rw [List.take_of_length_le (by omega)]
  · cases h

def TY1 : Table := [(135, sValid), (136, sNorm9), (137, sDivide9)] ++ TY0
theorem TY1_ok : TabOk TY1 := TabOk.append (TabOk.cons ok_yValid (TabOk.cons ok_yNorm (TabOk.cons ok_yDivide TabOk.nil))) TY0_ok

/-- How long the terms of a level are. -/
def sC : Nat → Nat
  | 0 => 301
  | k + 1 => 3 * sC k + 301 + 3
theorem sC_le {k : Nat} (h : k ≤ 2) : sC k ≤ 4000 := by
  match k, h with
  | 0, _ => decide
  | 1, _ => decide
  | 2, _ => decide

set_option maxHeartbeats 1000000 in
theorem ok_yAt : Ok1 92 sAt := by
  refine ok_of TY1_ok Try.func92 rfl (by kernel_rfl) ?_
  intro xs pre res h hp hlim
  unfold sAt at h
  split at h
  · rename_i c s l t
    cases h
    obtain ⟨hsh, hp1, hp2⟩ := hp
    have hl : Lim l := hlim.2.1.2.1
    have ht : Lim t := hlim.2.1.2.2.1
    have hsz : Sz 301 (rq s l t) := Sz.rq hl ht hp1 hp2
    cases hv : okC c with
    | false =>
      refine And.intro (Nat.le_of_ble_eq_true rfl) ?_
      repeat first | refine And.intro rfl ?_ | refine Or.inl (And.intro rfl ?_) | refine Or.inr (And.intro rfl ?_) | refine And.intro (fun (_ : true = true) => ?_) (fun (h : true = false) => Bool.noConfusion h) | refine And.intro (fun (h : false = true) => Bool.noConfusion h) (fun (_ : false = false) => ?_)
      repeat first | refine And.intro rfl ?_ | refine And.intro True.intro ?_ | refine Or.inl (And.intro rfl ?_) | refine Or.inr (And.intro rfl ?_) | refine And.intro (fun (_ : true = true) => ?_) (fun (h : true = false) => Bool.noConfusion h) | refine And.intro (fun (h : false = true) => Bool.noConfusion h) (fun (_ : false = false) => ?_)
      refine And.intro (fun hc => ?_) (fun hc => ?_)
      · repeat first | refine And.intro rfl ?_ | refine And.intro True.intro ?_ | refine Or.inl (And.intro rfl ?_) | refine Or.inr (And.intro rfl ?_) | refine And.intro (fun (_ : true = true) => ?_) (fun (h : true = false) => Bool.noConfusion h) | refine And.intro (fun (h : false = true) => Bool.noConfusion h) (fun (_ : false = false) => ?_)
        rfl
      · rw [show decide (2 ≤ c.length ∧ c.length ≤ 4) = false from hv] at hc
        cases hc
    | true =>
      have hv' := of_decide_eq_true hv
      obtain ⟨ps, rfl, hps, hpl⟩ := sh_le hsh
      rw [← hpl] at hv'
      have hlm := lm_of hlim.1
      rw [valsOf_B]
      have vc := valsOf_B ps
      have svs := sp_vals hlm hps
      obtain ⟨vs, hvs⟩ : ∃ vs, vs = ps.map PR.v := ⟨_, rfl⟩
      have hvl : vs.length = ps.length := by rw [hvs, List.length_map]
      rw [← hvs] at vc svs ⊢
      obtain ⟨q, hq⟩ : ∃ q, q = rq s l t := ⟨_, rfl⟩
      rw [← hq] at hsz ⊢
      refine And.intro (Nat.le_of_ble_eq_true rfl) ?_
      repeat first | refine And.intro rfl ?_ | refine Or.inl (And.intro rfl ?_) | refine Or.inr (And.intro rfl ?_) | refine And.intro (fun (_ : true = true) => ?_) (fun (h : true = false) => Bool.noConfusion h) | refine And.intro (fun (h : false = true) => Bool.noConfusion h) (fun (_ : false = false) => ?_)
      repeat first | refine And.intro rfl ?_ | refine And.intro True.intro ?_ | refine Or.inl (And.intro rfl ?_) | refine Or.inr (And.intro rfl ?_) | refine And.intro (fun (_ : true = true) => ?_) (fun (h : true = false) => Bool.noConfusion h) | refine And.intro (fun (h : false = true) => Bool.noConfusion h) (fun (_ : false = false) => ?_)
      refine And.intro (fun hc => ?_) (fun hc => ?_)
      · rw [show decide (2 ≤ (ps.map ptB).length ∧ (ps.map ptB).length ≤ 4) = true from hv] at hc
        cases hc
      · repeat first | refine And.intro rfl ?_ | refine And.intro True.intro ?_ | refine Or.inl (And.intro rfl ?_) | refine Or.inr (And.intro rfl ?_) | refine And.intro (fun (_ : true = true) => ?_) (fun (h : true = false) => Bool.noConfusion h) | refine And.intro (fun (h : false = true) => Bool.noConfusion h) (fun (_ : false = false) => ?_)
        refine And.intro (show ShP 60000 (ps.map ptB) ∧ (ps.map ptB).length ≤ 1000 from ⟨sh_ps hps (by decide), by rw [List.length_map]; omega⟩) ?_
        rw [vc]
        repeat first | refine And.intro rfl ?_ | refine And.intro True.intro ?_ | refine Or.inl (And.intro rfl ?_) | refine Or.inr (And.intro rfl ?_) | refine And.intro (fun (_ : true = true) => ?_) (fun (h : true = false) => Bool.noConfusion h) | refine And.intro (fun (h : false = true) => Bool.noConfusion h) (fun (_ : false = false) => ?_)
        refine Exists.intro {x : List (Rat × Rat) // 1 ≤ x.length ∧ x.length ≤ vs.length ∧ (∀ p, p ∈ x → Sp (sC (vs.length - x.length)) p) ∧ atQ (x.length - 1) x q = bez vs q} (Exists.intro (fun x => ⟨[(3, .ptr 0 0), (4, .ptr 1 0), (6, .one (.sl 6 (nB x.1)))], ⟨[(36, [.val (.bool s), .nat l, .nat t]), (38, zQ ++ zQ)], []⟩⟩) (Exists.intro (fun x => x.1.length) (Exists.intro ⟨vs, by omega, Nat.le_refl _, (by rw [Nat.sub_self]; exact svs), rfl⟩ (And.intro ?_ ?_))))
        · repeat first | exact trivial | refine And.intro rfl ?_ | refine And.intro trivial ?_ | refine And.intro (And.intro rfl trivial) ?_ | refine And.intro (And.intro rfl (And.intro rfl trivial)) ?_
        · rintro ⟨cur, hx1, hx2, hx3, hx4⟩
          have vcur := vals_nB cur
          repeat first | refine And.intro rfl ?_ | refine Or.inl (And.intro rfl ?_) | refine Or.inr (And.intro rfl ?_) | refine And.intro (fun (_ : true = true) => ?_) (fun (h : true = false) => Bool.noConfusion h) | refine And.intro (fun (h : false = true) => Bool.noConfusion h) (fun (_ : false = false) => ?_)
          refine And.intro (fun hc => ?_) (fun hc => ?_)
          · have hlen : 1 < cur.length := by
              have : (((nB cur).length : Nat) : Int) > 1 := of_decide_eq_true hc
              rw [nB_len] at this
              omega
            obtain ⟨m, hm⟩ : ∃ m, cur.length = m + 2 := ⟨cur.length - 2, by omega⟩
            have hdl := divQ_len cur q
            repeat first | refine And.intro rfl ?_ | refine Or.inl (And.intro rfl ?_) | refine Or.inr (And.intro rfl ?_) | refine And.intro (fun (_ : true = true) => ?_) (fun (h : true = false) => Bool.noConfusion h) | refine And.intro (fun (h : false = true) => Bool.noConfusion h) (fun (_ : false = false) => ?_)
            refine And.intro (show ShP 4000 (nB cur) ∧ (nB cur).length ≤ 1000 ∧ l.length ≤ 4000 ∧ t.length ≤ 4000 from ⟨sh_nB hx3 (sC_le (by omega)), by rw [nB_len]; omega, by omega, by omega⟩) ?_
            rw [vcur, ← hq]
            repeat first | refine And.intro rfl ?_ | refine Or.inl (And.intro rfl ?_) | refine Or.inr (And.intro rfl ?_) | refine And.intro (fun (_ : true = true) => ?_) (fun (h : true = false) => Bool.noConfusion h) | refine And.intro (fun (h : false = true) => Bool.noConfusion h) (fun (_ : false = false) => ?_)
            refine Exists.intro ⟨divQ cur q, by omega, by omega, ?_, ?_⟩ (And.intro (show (divQ cur q).length < cur.length by omega) ?_)
            · rw [show vs.length - (divQ cur q).length = (vs.length - cur.length) + 1 by omega]
              exact divQ_sp hsz hx3
            · rw [← hx4, hdl, hm]
              rfl
            · repeat first | exact trivial | refine And.intro rfl ?_ | refine And.intro trivial ?_ | refine And.intro (And.intro rfl trivial) ?_ | refine And.intro (And.intro rfl (And.intro rfl trivial)) ?_
          · have hlen : cur.length = 1 := by
              have : ¬ (((nB cur).length : Nat) : Int) > 1 := of_decide_eq_false hc
              rw [nB_len] at this
              omega
            match cur, hlen with
            | [P], _ =>
              have hx5 : P = bez vs q := hx4
              repeat first | refine And.intro rfl ?_ | refine Or.inl (And.intro rfl ?_) | refine Or.inr (And.intro rfl ?_) | refine And.intro (fun (_ : true = true) => ?_) (fun (h : true = false) => Bool.noConfusion h) | refine And.intro (fun (h : false = true) => Bool.noConfusion h) (fun (_ : false = false) => ?_)
              refine And.intro (show 0 ≤ (0 : Int) ∧ (0 : Int) < ((1 : Nat) : Int) by decide) ?_
              repeat first | refine And.intro rfl ?_ | refine And.intro True.intro ?_ | refine Or.inl (And.intro rfl ?_) | refine Or.inr (And.intro rfl ?_) | refine And.intro (fun (_ : true = true) => ?_) (fun (h : true = false) => Bool.noConfusion h) | refine And.intro (fun (h : false = true) => Bool.noConfusion h) (fun (_ : false = false) => ?_)
              show Res.t [.agg (dp (!true) P), .val (.int .i64 0)] = Res.t [.agg (dp (!true) (bez vs q)), .val (.int .i64 0)]
              rw [← hx5]
  · cases h

end Go.Gm
