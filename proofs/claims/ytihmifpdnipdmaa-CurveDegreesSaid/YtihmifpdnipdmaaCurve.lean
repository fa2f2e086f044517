/-
  The curves of the program. Plain theorems; no condition.
-/
import Derived.Test.YtihmifpdnipdmaaPts
set_option linter.all false
namespace Go.Gm
open Go.Proofs

def TC1 : Table := [(69, sPtOn), (102, sRatNorm)]
theorem TC1_ok : TabOk TC1 := TabOk.cons ok_ptOn (TabOk.cons ok_ratNorm TabOk.nil)

def sValid : List RV → Option (Prop × Res)
  | [.one (.sl 6 c)] => some (True, .r (.val (.bool (decide (2 ≤ c.length ∧ c.length ≤ 4)))))
  | _ => none

theorem ok_valid : Ok1 111 sValid := by
  refine ok_of TC1_ok Try.func111 rfl (by kernel_rfl) ?_
  intro xs pre res h hp hlim
  unfold sValid at h
  split at h
  · rename_i c
    cases h
    refine And.intro (Nat.le_of_ble_eq_true rfl) ?_
    repeat first | refine And.intro rfl ?_ | refine Or.inl (And.intro rfl ?_) | refine Or.inr (And.intro rfl ?_) | refine And.intro (fun (_ : true = true) => ?_) (fun (h : true = false) => Bool.noConfusion h) | refine And.intro (fun (h : false = true) => Bool.noConfusion h) (fun (_ : false = false) => ?_)
    by_cases h2 : 2 ≤ c.length
    · refine Or.inl (And.intro (decide_eq_true (show (c.length : Int) ≥ 2 by omega)) ?_)
      repeat first | refine And.intro rfl ?_ | refine Or.inl (And.intro rfl ?_) | refine Or.inr (And.intro rfl ?_) | refine And.intro (fun (_ : true = true) => ?_) (fun (h : true = false) => Bool.noConfusion h) | refine And.intro (fun (h : false = true) => Bool.noConfusion h) (fun (_ : false = false) => ?_)
      refine resB ?_
      by_cases h4 : c.length ≤ 4
      · rw [decide_eq_true (show (c.length : Int) ≤ 4 by omega), decide_eq_true ⟨h2, h4⟩]
      · rw [decide_eq_false (show ¬ (c.length : Int) ≤ 4 by omega), decide_eq_false (fun h => h4 h.2)]
    · refine Or.inr (And.intro (decide_eq_false (show ¬ (c.length : Int) ≥ 2 by omega)) ?_)
      repeat first | refine And.intro rfl ?_ | refine Or.inl (And.intro rfl ?_) | refine Or.inr (And.intro rfl ?_) | refine And.intro (fun (_ : true = true) => ?_) (fun (h : true = false) => Bool.noConfusion h) | refine And.intro (fun (h : false = true) => Bool.noConfusion h) (fun (_ : false = false) => ?_)
      exact resB (decide_eq_false (fun h => h2 h.1)).symm
  · cases h

def sPtNorm : List RV → Option (Prop × Res)
  | [.agg [.b (.val (.bool s0)), .b (.nat l0), .b (.nat t0), .b (.val (.bool z0)), .b (.nat k0), .b (.nat u0)]] => some (l0.length ≤ 70000 ∧ t0.length ≤ 70000 ∧ k0.length ≤ 70000 ∧ u0.length ≤ 70000, .r (.agg (cq (rq s0 l0 t0) ++ cq (rq z0 k0 u0))))
  | _ => none

theorem ok_ptNorm : Ok1 110 sPtNorm := by
  refine ok_of TC1_ok Try.func110 rfl (by kernel_rfl) ?_
  intro xs pre res h hp hlim
  unfold sPtNorm at h
  split at h
  · rename_i s0 l0 t0 z0 k0 u0
    cases h
    obtain ⟨h1, h2, h3, h4⟩ := hp
    refine And.intro (Nat.le_of_ble_eq_true rfl) ?_
    repeat first | refine And.intro rfl ?_ | refine Or.inl (And.intro rfl ?_) | refine Or.inr (And.intro rfl ?_) | refine And.intro (fun (_ : true = true) => ?_) (fun (h : true = false) => Bool.noConfusion h) | refine And.intro (fun (h : false = true) => Bool.noConfusion h) (fun (_ : false = false) => ?_)
    refine And.intro ?pre ?_
    case pre =>
      repeat' refine And.intro ?_ ?_
      all_goals first | exact lenN_of (by decide) | exact lenD_of (by decide) | assumption | exact trivial | exact Nat.zero_le _ | omega
    repeat first | refine And.intro rfl ?_ | refine And.intro True.intro ?_ | refine Or.inl (And.intro rfl ?_) | refine Or.inr (And.intro rfl ?_) | refine And.intro (fun (_ : true = true) => ?_) (fun (h : true = false) => Bool.noConfusion h) | refine And.intro (fun (h : false = true) => Bool.noConfusion h) (fun (_ : false = false) => ?_)
    refine And.intro ?pre ?_
    case pre =>
      repeat' refine And.intro ?_ ?_
      all_goals first | exact lenN_of (by decide) | exact lenD_of (by decide) | assumption | exact trivial | exact Nat.zero_le _ | omega
    repeat first | refine And.intro rfl ?_ | refine And.intro True.intro ?_ | refine Or.inl (And.intro rfl ?_) | refine Or.inr (And.intro rfl ?_) | refine And.intro (fun (_ : true = true) => ?_) (fun (h : true = false) => Bool.noConfusion h) | refine And.intro (fun (h : false = true) => Bool.noConfusion h) (fun (_ : false = false) => ?_)
    rfl
  · cases h

/-- Points of short limbs. -/
def ShP (n : Nat) (l : List (List BV)) : Prop := IsP l ∧ ∀ p, p ∈ ptsOf l → p.Le n

def sDivide : List RV → Option (Prop × Res)
  | [.one (.sl 6 c), .agg [.b (.val (.bool s)), .b (.nat l), .b (.nat t)]] => some ((ShP 300 c ∧ 1 ≤ c.length ∧ c.length ≤ 4) ∧ l.length ≤ 300 ∧ t.length ≤ 300, .r (.one (.sll 6 ((allL (ptsOf c) (rq s l t)).map fun x => x.map ptB))))
  | _ => none

set_option maxHeartbeats 1000000 in
theorem ok_divide : Ok1 112 sDivide := by
  refine ok_of TC1_ok Try.func112 rfl (by kernel_rfl) ?_
  intro xs pre res h hp hlim
  unfold sDivide at h
  split at h
  · rename_i c s l t
    cases h
    obtain ⟨⟨⟨hc1, hc2⟩, hc3, hc4⟩, hp1, hp2⟩ := hp
    obtain ⟨ps, hps⟩ : ∃ ps, ps = ptsOf c := ⟨_, rfl⟩
    unfold IsP at hc1
    rw [← hps] at hc1 hc2 ⊢
    have e1 : c.length = ps.length := by rw [hc1, List.length_map]
    rw [e1] at hc3 hc4
    clear e1 hps
    subst hc1
    have hlm := lm_of hlim.1
    have hl : Lim l := hlim.2.1.2.1
    have ht : Lim t := hlim.2.1.2.2.1
    have hsz : Sz 301 (rq s l t) := Sz.rq hl ht hp1 hp2
    refine And.intro (Nat.le_of_ble_eq_true rfl) ?_
    repeat first | refine And.intro rfl ?_ | refine Or.inl (And.intro rfl ?_) | refine Or.inr (And.intro rfl ?_) | refine And.intro (fun (_ : true = true) => ?_) (fun (h : true = false) => Bool.noConfusion h) | refine And.intro (fun (h : false = true) => Bool.noConfusion h) (fun (_ : false = false) => ?_)
    repeat first | refine And.intro rfl ?_ | refine And.intro True.intro ?_ | refine Or.inl (And.intro rfl ?_) | refine Or.inr (And.intro rfl ?_) | refine And.intro (fun (_ : true = true) => ?_) (fun (h : true = false) => Bool.noConfusion h) | refine And.intro (fun (h : false = true) => Bool.noConfusion h) (fun (_ : false = false) => ?_)
    refine Exists.intro {x : List PR × List (List PR) // 1 ≤ x.1.length ∧ x.1.length ≤ ps.length ∧ (∀ p, p ∈ x.1 → p.Lm ∧ p.Le (sB (ps.length - x.1.length))) ∧ x.2 ++ (lvlQ (x.1.length - 1) (x.1.map PR.v) (rq s l t)).map nrm = allL ps (rq s l t)} (Exists.intro (fun x => ⟨[(0, .one (.sl 6 (x.1.1.map ptB))), (3, .ptr 0 0), (5, .own 0)], ⟨[(36, [.val (.bool s), .nat l, .nat t])], [.ll 52 6 (x.1.2.map fun y => y.map ptB)]⟩⟩) (Exists.intro (fun x => x.1.1.length) (Exists.intro ⟨(ps, [ps]), hc3, Nat.le_refl _, (fun p hp => ⟨hlm p hp, by rw [Nat.sub_self]; exact hc2 p hp⟩), rfl⟩ (And.intro ?_ ?_))))
    · repeat first | exact trivial | refine And.intro rfl ?_ | refine And.intro trivial ?_ | refine And.intro (And.intro rfl trivial) ?_ | refine And.intro (And.intro rfl (And.intro rfl trivial)) ?_
    · rintro ⟨⟨cur, done⟩, hx1, hx2, hx3, hx4⟩
      simp only at hx1 hx2 hx3 hx4
      repeat first | refine And.intro rfl ?_ | refine Or.inl (And.intro rfl ?_) | refine Or.inr (And.intro rfl ?_) | refine And.intro (fun (_ : true = true) => ?_) (fun (h : true = false) => Bool.noConfusion h) | refine And.intro (fun (h : false = true) => Bool.noConfusion h) (fun (_ : false = false) => ?_)
      refine And.intro (fun hc => ?_) (fun hc => ?_)
      · have hlen : 1 < cur.length := by
          have : ((cur.map ptB).length : Int) > 1 := of_decide_eq_true hc
          rw [List.length_map] at this
          omega
        obtain ⟨m, hm⟩ : ∃ m, cur.length = m + 2 := ⟨cur.length - 2, by omega⟩
        obtain ⟨nx, hnx⟩ : ∃ nx, nx = nrm (divQ (cur.map PR.v) (rq s l t)) := ⟨_, rfl⟩
        have hnl : nx.length = m + 1 := by rw [hnx, List.length_map, divQ_len, List.length_map, hm]; rfl
        have hdone : done.length ≤ 4 := by
          have := congrArg List.length hx4
          simp only [allL, List.length_append, List.length_map, lvlQ_len, List.length_cons] at this
          omega
        have henx : ∀ i, i < m + 1 → nx.getD i PR.zero = prQ (onP (cur.getD i PR.zero).v (cur.getD (i + 1) PR.zero).v (rq s l t)) := by
          intro i hi
          have e1 : (divQ (cur.map PR.v) (rq s l t)).getD i (0, 0) = onP (cur.getD i PR.zero).v (cur.getD (i + 1) PR.zero).v (rq s l t) := by
            rw [divQ_get _ _ _ _ (by rw [List.length_map]; omega), getD_v _ _ (by omega), getD_v _ _ (by omega)]
          have hlt : i < (divQ (cur.map PR.v) (rq s l t)).length := by rw [divQ_len, List.length_map]; omega
          rw [← e1, hnx]
          simp [List.getD_eq_getElem?_getD, hlt]
        have hw : IntKind.i64.wrap (((cur.map ptB).length : Int) - 1) = ((m + 1 : Nat) : Int) := by rw [List.length_map, hm, wI (by omega) (by omega)]; omega
        repeat first | refine And.intro rfl ?_ | refine Or.inl (And.intro rfl ?_) | refine Or.inr (And.intro rfl ?_) | refine And.intro (fun (_ : true = true) => ?_) (fun (h : true = false) => Bool.noConfusion h) | refine And.intro (fun (h : false = true) => Bool.noConfusion h) (fun (_ : false = false) => ?_)
        refine And.intro (show 0 ≤ IntKind.i64.wrap (((cur.map ptB).length : Int) - 1) ∧ IntKind.i64.wrap (((cur.map ptB).length : Int) - 1) ≤ IntKind.i64.wrap (((cur.map ptB).length : Int) - 1) ∧ IntKind.i64.wrap (((cur.map ptB).length : Int) - 1) ≤ 1000000 by rw [hw]; omega) ?_
        repeat first | refine And.intro rfl ?_ | refine Or.inl (And.intro rfl ?_) | refine Or.inr (And.intro rfl ?_) | refine And.intro (fun (_ : true = true) => ?_) (fun (h : true = false) => Bool.noConfusion h) | refine And.intro (fun (h : false = true) => Bool.noConfusion h) (fun (_ : false = false) => ?_)
        refine Exists.intro {i : Nat // i ≤ m + 1} (Exists.intro (fun i => ⟨[(0, .one (.sl 6 (cur.map ptB))), (3, .ptr 0 0), (5, .own 0), (6, .own 1), (18, .val (.int .i64 ((m + 1 : Nat) : Int))), (19, .val (.int .i64 (i.1 : Nat)))], ⟨[(36, [.val (.bool s), .nat l, .nat t])], [.ll 52 6 (done.map fun y => y.map ptB), .s 38 6 ((nx.take i.1).map ptB ++ List.replicate (m + 1 - i.1) (ptB PR.zero))]⟩⟩) (Exists.intro (fun i => m + 1 - i.1) (Exists.intro ⟨0, by omega⟩ (And.intro ?_ ?_))))
        · repeat first | exact trivial | refine And.intro rfl ?_ | refine And.intro trivial ?_ | refine And.intro (And.intro rfl trivial) ?_ | refine And.intro (And.intro rfl (And.intro rfl trivial)) ?_
          refine And.intro (And.intro rfl (And.intro (rwSl ?_) trivial)) ?_
          · show List.replicate (IntKind.i64.wrap (((cur.map ptB).length : Int) - 1)).toNat (ptB PR.zero) = (nx.take 0).map ptB ++ List.replicate (m + 1 - 0) (ptB PR.zero)
            rw [hw, Int.toNat_natCast]
            rfl
          · repeat first | exact trivial | refine And.intro rfl ?_ | refine And.intro trivial ?_ | refine And.intro (And.intro rfl trivial) ?_ | refine And.intro (And.intro rfl (And.intro rfl trivial)) ?_
            refine And.intro (avI ?_) ?_
            · show (((List.replicate (IntKind.i64.wrap (((cur.map ptB).length : Int) - 1)).toNat (ptB PR.zero)).length : Nat) : Int) = _
              rw [hw, Int.toNat_natCast, List.length_replicate]
            · repeat first | exact trivial | refine And.intro rfl ?_ | refine And.intro trivial ?_ | refine And.intro (And.intro rfl trivial) ?_ | refine And.intro (And.intro rfl (And.intro rfl trivial)) ?_
        · rintro ⟨i, hi⟩
          have hrow : ((nx.take i).map ptB ++ List.replicate (m + 1 - i) (ptB PR.zero)).length = m + 1 := by simp [hnl]; omega
          repeat first | refine And.intro rfl ?_ | refine Or.inl (And.intro rfl ?_) | refine Or.inr (And.intro rfl ?_) | refine And.intro (fun (_ : true = true) => ?_) (fun (h : true = false) => Bool.noConfusion h) | refine And.intro (fun (h : false = true) => Bool.noConfusion h) (fun (_ : false = false) => ?_)
          refine And.intro (fun hc => ?_) (fun hc => ?_)
          · have hi' : (i : Int) < ((m + 1 : Nat) : Int) := of_decide_eq_true hc
            have hi1 : IntKind.i64.wrap ((i : Int) + 1) = ((i + 1 : Nat) : Int) := by rw [wI (by omega) (by omega)]; omega
            have g1 : (cur.map ptB).getD (i : Int).toNat [] = ptB (cur.getD i PR.zero) := getD_ptB cur i (by omega)
            have g2 : (cur.map ptB).getD (IntKind.i64.wrap ((i : Int) + 1)).toNat [] = ptB (cur.getD (i + 1) PR.zero) := by rw [hi1]; exact getD_ptB cur (i + 1) (by omega)
            have hd2 : ps.length - cur.length ≤ 2 := by omega
            have m1 := getD_mem' cur i PR.zero (by omega)
            have m2 := getD_mem' cur (i + 1) PR.zero (by omega)
            have k1 := (hx3 _ m1).2.mono (sB_le hd2)
            have k2 := (hx3 _ m2).2.mono (sB_le hd2)
            have enx := henx i (by omega)
            repeat first | refine And.intro rfl ?_ | refine Or.inl (And.intro rfl ?_) | refine Or.inr (And.intro rfl ?_) | refine And.intro (fun (_ : true = true) => ?_) (fun (h : true = false) => Bool.noConfusion h) | refine And.intro (fun (h : false = true) => Bool.noConfusion h) (fun (_ : false = false) => ?_)
            refine And.intro (show 0 ≤ (i : Int) ∧ (i : Int) < ((cur.map ptB).length : Int) by rw [List.length_map]; omega) ?_
            rw [g1]
            repeat first | refine And.intro rfl ?_ | refine Or.inl (And.intro rfl ?_) | refine Or.inr (And.intro rfl ?_) | refine And.intro (fun (_ : true = true) => ?_) (fun (h : true = false) => Bool.noConfusion h) | refine And.intro (fun (h : false = true) => Bool.noConfusion h) (fun (_ : false = false) => ?_)
            refine And.intro (show 0 ≤ IntKind.i64.wrap ((i : Int) + 1) ∧ IntKind.i64.wrap ((i : Int) + 1) < ((cur.map ptB).length : Int) by rw [hi1, List.length_map]; omega) ?_
            rw [g2]
            repeat first | refine And.intro rfl ?_ | refine Or.inl (And.intro rfl ?_) | refine Or.inr (And.intro rfl ?_) | refine And.intro (fun (_ : true = true) => ?_) (fun (h : true = false) => Bool.noConfusion h) | refine And.intro (fun (h : false = true) => Bool.noConfusion h) (fun (_ : false = false) => ?_)
            refine And.intro (And.intro k1.1 (And.intro k1.2.1 (And.intro k1.2.2.1 (And.intro k1.2.2.2 (And.intro k2.1 (And.intro k2.2.1 (And.intro k2.2.2.1 (And.intro k2.2.2.2 (And.intro (show l.length ≤ 4000 by omega) (show t.length ≤ 4000 by omega)))))))))) ?_
            repeat first | refine And.intro rfl ?_ | refine Or.inl (And.intro rfl ?_) | refine Or.inr (And.intro rfl ?_) | refine And.intro (fun (_ : true = true) => ?_) (fun (h : true = false) => Bool.noConfusion h) | refine And.intro (fun (h : false = true) => Bool.noConfusion h) (fun (_ : false = false) => ?_)
            refine And.intro (show 0 ≤ (i : Int) ∧ (i : Int) < (((nx.take i).map ptB ++ List.replicate (m + 1 - i) (ptB PR.zero)).length : Int) by rw [hrow]; omega) ?_
            repeat first | refine And.intro rfl ?_ | refine Or.inl (And.intro rfl ?_) | refine Or.inr (And.intro rfl ?_) | refine And.intro (fun (_ : true = true) => ?_) (fun (h : true = false) => Bool.noConfusion h) | refine And.intro (fun (h : false = true) => Bool.noConfusion h) (fun (_ : false = false) => ?_)
            refine And.intro (show (i : Int).toNat < ((nx.take i).map ptB ++ List.replicate (m + 1 - i) (ptB PR.zero)).length by rw [hrow]; omega) ?_
            repeat first | refine And.intro rfl ?_ | refine Or.inl (And.intro rfl ?_) | refine Or.inr (And.intro rfl ?_) | refine And.intro (fun (_ : true = true) => ?_) (fun (h : true = false) => Bool.noConfusion h) | refine And.intro (fun (h : false = true) => Bool.noConfusion h) (fun (_ : false = false) => ?_)
            refine Exists.intro ⟨i + 1, by omega⟩ (And.intro (show m + 1 - (i + 1) < m + 1 - i by omega) ?_)
            repeat first | exact trivial | refine And.intro rfl ?_ | refine And.intro trivial ?_ | refine And.intro (And.intro rfl trivial) ?_ | refine And.intro (And.intro rfl (And.intro rfl trivial)) ?_
            refine And.intro (And.intro rfl (And.intro (rwSl ?_) trivial)) ?_
            · show ((nx.take i).map ptB ++ List.replicate (m + 1 - i) (ptB PR.zero)).set (i : Int).toNat (ptB (prQ (onP (cur.getD i PR.zero).v (cur.getD (i + 1) PR.zero).v (rq s l t)))) = (nx.take (i + 1)).map ptB ++ List.replicate (m + 1 - (i + 1)) (ptB PR.zero)
              rw [Int.toNat_natCast, show m + 1 - i = (m + 1 - (i + 1)) + 1 by omega, set_midG _ _ _ _ (by simp [hnl]; omega), ← enx, take_snoc nx PR.zero i (by omega), List.map_append]
              rfl
            · repeat first | exact trivial | refine And.intro rfl ?_ | refine And.intro trivial ?_ | refine And.intro (And.intro rfl trivial) ?_ | refine And.intro (And.intro rfl (And.intro rfl trivial)) ?_
              exact And.intro (avI hi1) trivial
          · have hi' : ¬ (i : Int) < ((m + 1 : Nat) : Int) := of_decide_eq_false hc
            have him : i = m + 1 := by omega
            have hfin : (nx.take i).map ptB ++ List.replicate (m + 1 - i) (ptB PR.zero) = nx.map ptB := by
              rw [him, Nat.sub_self, List.take_of_length_le (by omega)]
              simp
            repeat first | refine And.intro rfl ?_ | refine And.intro True.intro ?_ | refine Or.inl (And.intro rfl ?_) | refine Or.inr (And.intro rfl ?_) | refine And.intro (fun (_ : true = true) => ?_) (fun (h : true = false) => Bool.noConfusion h) | refine And.intro (fun (h : false = true) => Bool.noConfusion h) (fun (_ : false = false) => ?_)
            refine And.intro (show (done.map fun y => y.map ptB).length + 1 ≤ 1000000 by rw [List.length_map]; omega) ?_
            repeat first | refine And.intro rfl ?_ | refine And.intro True.intro ?_ | refine Or.inl (And.intro rfl ?_) | refine Or.inr (And.intro rfl ?_) | refine And.intro (fun (_ : true = true) => ?_) (fun (h : true = false) => Bool.noConfusion h) | refine And.intro (fun (h : false = true) => Bool.noConfusion h) (fun (_ : false = false) => ?_)
            refine Exists.intro ⟨(nx, done ++ [nx]), (show 1 ≤ nx.length by omega), (show nx.length ≤ ps.length by omega), ?_, ?_⟩ (And.intro (show nx.length < cur.length by omega) ?_)
            · intro p hp
              have hp : p ∈ nx := hp
              obtain ⟨q, hq1, hq2⟩ := List.getElem_of_mem hp
              have hq3 : nx.getD q PR.zero = p := by rw [List.getD_eq_getElem?_getD, List.getElem?_eq_getElem hq1]; exact hq2
              rw [henx q (by omega)] at hq3
              have hd2 : ps.length - cur.length ≤ 2 := by omega
              have m1 := hx3 _ (getD_mem' cur q PR.zero (by omega))
              have m2 := hx3 _ (getD_mem' cur (q + 1) PR.zero (by omega))
              rw [← hq3]
              refine ⟨prQ_lm _, ?_⟩
              have := sB_step hd2 m1.1 m2.1 m1.2 m2.2 hsz
              rwa [show ps.length - cur.length + 1 = ps.length - nx.length by omega] at this
            · show (done ++ [nx]) ++ (lvlQ (nx.length - 1) (nx.map PR.v) (rq s l t)).map nrm = allL ps (rq s l t)
              rw [← hx4, hm, hnl, hnx, prQ_map, List.append_assoc]
              rfl
            · repeat first | exact trivial | refine And.intro rfl ?_ | refine And.intro trivial ?_ | refine And.intro (And.intro rfl trivial) ?_ | refine And.intro (And.intro rfl (And.intro rfl trivial)) ?_
              refine And.intro (And.intro (rwLl ?_) trivial) ?_
              · show (done.map fun y => y.map ptB) ++ [(nx.take i).map ptB ++ List.replicate (m + 1 - i) (ptB PR.zero)] = (done ++ [nx]).map fun y => y.map ptB
                rw [hfin, List.map_append]
                rfl
              · repeat first | exact trivial | refine And.intro rfl ?_ | refine And.intro trivial ?_ | refine And.intro (And.intro rfl trivial) ?_ | refine And.intro (And.intro rfl (And.intro rfl trivial)) ?_
                refine And.intro (avSl hfin) ?_
                repeat first | exact trivial | refine And.intro rfl ?_ | refine And.intro trivial ?_ | refine And.intro (And.intro rfl trivial) ?_ | refine And.intro (And.intro rfl (And.intro rfl trivial)) ?_
      · have hlen : ¬ 1 < cur.length := by
          have : ¬ ((cur.map ptB).length : Int) > 1 := of_decide_eq_false hc
          rw [List.length_map] at this
          omega
        have e0 : cur.length - 1 = 0 := by omega
        rw [e0] at hx4
        have hx4 : done = allL ps (rq s l t) := by rw [← hx4]; simp [lvlQ]
        repeat first | refine And.intro rfl ?_ | refine Or.inl (And.intro rfl ?_) | refine Or.inr (And.intro rfl ?_) | refine And.intro (fun (_ : true = true) => ?_) (fun (h : true = false) => Bool.noConfusion h) | refine And.intro (fun (h : false = true) => Bool.noConfusion h) (fun (_ : false = false) => ?_)
        exact resSll (congrArg _ hx4)
  · cases h

end Go.Gm
