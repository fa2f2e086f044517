/-
  The curves of the program, part C: Split. Plain theorems; no condition.
-/
import Derived.Test.YtihmifpdnipdmaaCurveB
set_option linter.all false
namespace Go.Gm
open Go.Proofs

/-- All the lists that a division makes. -/
def lvls (l : List (Rat × Rat)) (t : Rat) : List (List (Rat × Rat)) := l :: lvlQ (l.length - 1) l t
def hdQ (l : List (Rat × Rat)) : Rat × Rat := l.headD (0, 0)
def lsQ (l : List (Rat × Rat)) : Rat × Rat := l.getLastD (0, 0)
def leftQ (l : List (Rat × Rat)) (t : Rat) : List (Rat × Rat) := (lvls l t).map hdQ
def rightQ (l : List (Rat × Rat)) (t : Rat) : List (Rat × Rat) := (lvls l t).reverse.map lsQ
theorem lvls_len {l : List (Rat × Rat)} (t : Rat) (h : 0 < l.length) : (lvls l t).length = l.length := by
  simp only [lvls, List.length_cons, lvlQ_len]
  omega

theorem allL_v (ps : List PR) (t : Rat) : (allL ps t).map (fun L => L.map PR.v) = lvls (ps.map PR.v) t := by
  unfold allL lvls
  rw [List.map_cons, List.map_map, List.length_map]
  congr 1
  conv => rhs; rw [← List.map_id (lvlQ _ _ _)]
  exact List.map_congr_left (fun L _ => prQ_map L)

theorem lvlQ_lenAt : ∀ (k i : Nat) (l : List (Rat × Rat)) (t : Rat), i < k → ((lvlQ k l t).getD i []).length = l.length - (i + 1)
  | 0, _, _, _, h => by omega
  | k + 1, 0, l, t, _ => divQ_len l t
  | k + 1, i + 1, l, t, h => by
    show ((lvlQ k (divQ l t) t).getD i []).length = _
    rw [lvlQ_lenAt k i (divQ l t) t (by omega), divQ_len]
    omega

theorem gr_four {n : Nat} (h : n ≤ 3) : gr 301 n 301 ≤ 13000 := by
  match n, h with
  | 0, _ => decide
  | 1, _ => decide
  | 2, _ => decide
  | 3, _ => decide

/-- One of the lists that a division makes. -/
theorem allL_at {ps : List PR} {t : Rat} (h4 : ps.length ≤ 4) (hle : ∀ p, p ∈ ps → p.Lm ∧ p.Le 300) (ht : Sz 301 t) {k : Nat} (hk : k < ps.length) :
    ∃ L : List PR, ((allL ps t).map fun x => x.map ptB).getD k [] = L.map ptB ∧ L.length = ps.length - k ∧ (∀ p, p ∈ L → p.Le 13000) ∧ L.map PR.v = (lvls (ps.map PR.v) t).getD k [] := by
  have hlen : (allL ps t).length = ps.length := by
    simp only [allL, List.length_map, List.length_cons, lvlQ_len]
    omega
  refine ⟨(allL ps t).getD k [], ?_, ?_, ?_, ?_⟩
  · simp [List.getD_eq_getElem?_getD, hlen, hk]
  · cases k with
    | zero => rfl
    | succ k =>
      show (((lvlQ (ps.length - 1) (ps.map PR.v) t).map nrm).getD k []).length = _
      have hlt : k < (lvlQ (ps.length - 1) (ps.map PR.v) t).length := by rw [lvlQ_len]; omega
      have := lvlQ_lenAt (ps.length - 1) k (ps.map PR.v) t (by omega)
      rw [List.getD_eq_getElem?_getD, List.getElem?_eq_getElem hlt] at this
      simp only [Option.getD_some] at this
      rw [List.getD_eq_getElem?_getD, List.getElem?_map, List.getElem?_eq_getElem hlt]
      simp only [Option.map_some, Option.getD_some, List.length_map, this]
  · intro p hp
    have hm := getD_mem' (allL ps t) k [] (by omega)
    unfold allL at hm hp
    rcases List.mem_cons.1 hm with e | hm
    · rw [e] at hp
      exact (hle p hp).2.mono (by decide)
    · obtain ⟨X, hX1, hX2⟩ := List.mem_map.1 hm
      rw [← hX2] at hp
      obtain ⟨q, hq1, rfl⟩ := List.mem_map.1 hp
      refine prQ_le (lvlQ_sp ht _ 301 _ (fun q hq => ?_) X hX1 q hq1) (gr_four (by omega))
      obtain ⟨r, hr1, rfl⟩ := List.mem_map.1 hq
      exact PR.sp (hle r hr1).1 (hle r hr1).2
  · rw [← allL_v]
    simp [List.getD_eq_getElem?_getD, hlen, hk]

theorem hd_of {L : List PR} (h : 0 < L.length) : (L.getD 0 PR.zero).v = hdQ (L.map PR.v) := by
  match L, h with
  | p :: L, _ => rfl
theorem ls_of {L : List PR} (h : 0 < L.length) : (L.getD (L.length - 1) PR.zero).v = lsQ (L.map PR.v) := by
  unfold lsQ
  rw [List.getLastD_eq_getLast?, List.getLast?_eq_getElem?, List.length_map]
  simp [List.getD_eq_getElem?_getD, List.getElem?_map, List.getElem?_eq_getElem (show L.length - 1 < L.length by omega)]
theorem left_at {l : List (Rat × Rat)} {t : Rat} {k : Nat} (h0 : 0 < l.length) (hk : k < l.length) : (leftQ l t).getD k (0, 0) = hdQ ((lvls l t).getD k []) := by
  have := lvls_len t h0
  simp [leftQ, List.getD_eq_getElem?_getD, this, hk]
theorem right_at {l : List (Rat × Rat)} {t : Rat} {k : Nat} (h0 : 0 < l.length) (hk : k < l.length) : (rightQ l t).getD k (0, 0) = lsQ ((lvls l t).getD (l.length - 1 - k) []) := by
  have h1 := lvls_len t h0
  simp [rightQ, List.getD_eq_getElem?_getD, h1, hk, List.getElem?_reverse, show l.length - 1 - k < l.length by omega]
theorem leftQ_len {l : List (Rat × Rat)} (t : Rat) (h : 0 < l.length) : (leftQ l t).length = l.length := by rw [leftQ, List.length_map, lvls_len t h]
theorem rightQ_len {l : List (Rat × Rat)} (t : Rat) (h : 0 < l.length) : (rightQ l t).length = l.length := by rw [rightQ, List.length_map, List.length_reverse, lvls_len t h]

/-- A list of points in normal form, cell by cell. -/
abbrev nB (l : List (Rat × Rat)) : List (List BV) := (nrm l).map ptB
theorem nB_len (l : List (Rat × Rat)) : (nB l).length = l.length := by simp [nB]
theorem nB_snoc (l : List (Rat × Rat)) (k : Nat) (hk : k < l.length) : nB (l.take (k + 1)) = nB (l.take k) ++ [ptB (prQ (l.getD k (0, 0)))] := by
  rw [take_snoc l (0, 0) k hk]
  simp [nB, nrm]

def sSplit : List RV → Option (Prop × Res)
  | [.one (.sl 6 c), .agg [.b (.val (.bool s)), .b (.nat l), .b (.nat t)]] => some (ShP 300 c ∧ l.length ≤ 300 ∧ t.length ≤ 300, .t [.one (.sl 6 (cond (okC c) (nB (leftQ (valsOf c) (rq s l t))) [])), .one (.sl 6 (cond (okC c) (nB (rightQ (valsOf c) (rq s l t))) [])), .val (.int .i64 (cond (okC c) 0 1))])
  | _ => none

set_option maxHeartbeats 1000000 in
theorem ok_Split : Ok1 93 sSplit := by
  refine ok_of TC2_ok Try.func93 rfl (by kernel_rfl) ?_
  intro xs pre res h hp hlim
  unfold sSplit at h
  split at h
  · rename_i c s l t
    cases h
    obtain ⟨hsh, hp1, hp2⟩ := hp
    have hl : Lim l := hlim.2.1.2.1
    have ht : Lim t := hlim.2.1.2.2.1
    have hsz : Sz 301 (rq s l t) := Sz.rq hl ht hp1 hp2
    cases hv : okC c with
    | false =>
      refine And.intro (Nat.le_of_ble_eq_true rfl) ?_
      repeat first | refine And.intro rfl ?_ | refine Or.inl (And.intro rfl ?_) | refine Or.inr (And.intro rfl ?_) | refine And.intro (fun (_ : true = true) => ?_) (fun (h : true = false) => Bool.noConfusion h) | refine And.intro (fun (h : false = true) => Bool.noConfusion h) (fun (_ : false = false) => ?_)
      repeat first | refine And.intro rfl ?_ | refine And.intro True.intro ?_ | refine Or.inl (And.intro rfl ?_) | refine Or.inr (And.intro rfl ?_) | refine And.intro (fun (_ : true = true) => ?_) (fun (h : true = false) => Bool.noConfusion h) | refine And.intro (fun (h : false = true) => Bool.noConfusion h) (fun (_ : false = false) => ?_)
      refine And.intro (fun hc => ?_) (fun hc => ?_)
      · repeat first | refine And.intro rfl ?_ | refine And.intro True.intro ?_ | refine Or.inl (And.intro rfl ?_) | refine Or.inr (And.intro rfl ?_) | refine And.intro (fun (_ : true = true) => ?_) (fun (h : true = false) => Bool.noConfusion h) | refine And.intro (fun (h : false = true) => Bool.noConfusion h) (fun (_ : false = false) => ?_)
        rfl
      · rw [show decide (2 ≤ c.length ∧ c.length ≤ 4) = false from hv] at hc
        cases hc
    | true =>
      have hv' := of_decide_eq_true hv
      obtain ⟨ps, rfl, hps, hpl⟩ := sh_le hsh
      rw [← hpl] at hv'
      have hlm := lm_of hlim.1
      have hle : ∀ p, p ∈ ps → p.Lm ∧ p.Le 300 := fun p hp => ⟨hlm p hp, hps p hp⟩
      obtain ⟨q, hq⟩ : ∃ q, q = rq s l t := ⟨_, rfl⟩
      obtain ⟨LL, hLL⟩ : ∃ LL, LL = (allL ps q).map fun x => x.map ptB := ⟨_, rfl⟩
      have hlen : LL.length = ps.length := by
        rw [hLL]
        simp only [allL, List.length_map, List.length_cons, lvlQ_len]
        omega
      rw [valsOf_B]
      obtain ⟨vs, hvs⟩ : ∃ vs, vs = ps.map PR.v := ⟨_, rfl⟩
      have hvl : vs.length = ps.length := by rw [hvs, List.length_map]
      have hLlen := leftQ_len (l := vs) q (by omega)
      have hRlen := rightQ_len (l := vs) q (by omega)
      rw [← hvs, ← hq]
      rw [← hq] at hsz
      refine And.intro (Nat.le_of_ble_eq_true rfl) ?_
      repeat first | refine And.intro rfl ?_ | refine Or.inl (And.intro rfl ?_) | refine Or.inr (And.intro rfl ?_) | refine And.intro (fun (_ : true = true) => ?_) (fun (h : true = false) => Bool.noConfusion h) | refine And.intro (fun (h : false = true) => Bool.noConfusion h) (fun (_ : false = false) => ?_)
      repeat first | refine And.intro rfl ?_ | refine And.intro True.intro ?_ | refine Or.inl (And.intro rfl ?_) | refine Or.inr (And.intro rfl ?_) | refine And.intro (fun (_ : true = true) => ?_) (fun (h : true = false) => Bool.noConfusion h) | refine And.intro (fun (h : false = true) => Bool.noConfusion h) (fun (_ : false = false) => ?_)
      refine And.intro (fun hc => ?_) (fun hc => ?_)
      · rw [show decide (2 ≤ (ps.map ptB).length ∧ (ps.map ptB).length ≤ 4) = true from hv] at hc
        cases hc
      · repeat first | refine And.intro rfl ?_ | refine And.intro True.intro ?_ | refine Or.inl (And.intro rfl ?_) | refine Or.inr (And.intro rfl ?_) | refine And.intro (fun (_ : true = true) => ?_) (fun (h : true = false) => Bool.noConfusion h) | refine And.intro (fun (h : false = true) => Bool.noConfusion h) (fun (_ : false = false) => ?_)
        refine And.intro (show (ShP 300 (ps.map ptB) ∧ 1 ≤ (ps.map ptB).length ∧ (ps.map ptB).length ≤ 4) ∧ l.length ≤ 300 ∧ t.length ≤ 300 from ⟨⟨hsh, by rw [List.length_map]; omega, by rw [List.length_map]; omega⟩, hp1, hp2⟩) ?_
        rw [ptsOf_B, ← hq, ← hLL]
        repeat first | refine And.intro rfl ?_ | refine And.intro True.intro ?_ | refine Or.inl (And.intro rfl ?_) | refine Or.inr (And.intro rfl ?_) | refine And.intro (fun (_ : true = true) => ?_) (fun (h : true = false) => Bool.noConfusion h) | refine And.intro (fun (h : false = true) => Bool.noConfusion h) (fun (_ : false = false) => ?_)
        refine Exists.intro {k : Nat // k ≤ ps.length} (Exists.intro (fun k => ⟨[(4, .own 0), (5, .own 1), (7, .one (.sll 6 LL)), (16, .one (.sll 6 LL)), (17, .val (.int .i64 (LL.length : Nat))), (18, .val (.int .i64 (k.1 : Nat)))], ⟨[], [.s 38 6 (nB ((leftQ vs q).take k.1)), .s 38 6 (nB ((rightQ vs q).take k.1))]⟩⟩) (Exists.intro (fun k => ps.length - k.1) (Exists.intro ⟨0, by omega⟩ (And.intro ?_ ?_))))
        · repeat first | exact trivial | refine And.intro rfl ?_ | refine And.intro trivial ?_ | refine And.intro (And.intro rfl trivial) ?_ | refine And.intro (And.intro rfl (And.intro rfl trivial)) ?_
        · rintro ⟨k, hk⟩
          repeat first | refine And.intro rfl ?_ | refine Or.inl (And.intro rfl ?_) | refine Or.inr (And.intro rfl ?_) | refine And.intro (fun (_ : true = true) => ?_) (fun (h : true = false) => Bool.noConfusion h) | refine And.intro (fun (h : false = true) => Bool.noConfusion h) (fun (_ : false = false) => ?_)
          refine And.intro (fun hc => ?_) (fun hc => ?_)
          · have hk' : (k : Int) < (LL.length : Nat) := of_decide_eq_true hc
            obtain ⟨L, a1, a2, a3, a4⟩ := allL_at hv'.2 hle hsz (k := k) (by omega)
            obtain ⟨R, b1, b2, b3, b4⟩ := allL_at hv'.2 hle hsz (k := ps.length - 1 - k) (by omega)
            rw [← hLL] at a1 b1
            rw [← hvs] at a4 b4
            have hw : IntKind.i64.wrap (IntKind.i64.wrap (((LL.length : Nat) : Int) - 1) - (k : Int)) = ((ps.length - 1 - k : Nat) : Int) := by rw [hlen, wI (x := ((ps.length : Nat) : Int) - 1) (by omega) (by omega), wI (by omega) (by omega)]; omega
            have hw2 : IntKind.i64.wrap (((R.map ptB).length : Int) - 1) = ((R.length - 1 : Nat) : Int) := by rw [List.length_map, wI (by omega) (by omega)]; omega
            have g1 : (L.map ptB).getD (0 : Int).toNat [] = ptB (L.getD 0 PR.zero) := getD_ptB L 0 (by omega)
            have g2 : (R.map ptB).getD (R.length - 1) [] = ptB (R.getD (R.length - 1) PR.zero) := getD_ptB R _ (by omega)
            have k1 := (a3 _ (getD_mem' L 0 PR.zero (by omega))).mono (show 13000 ≤ 70000 by decide)
            have k2 := (b3 _ (getD_mem' R (R.length - 1) PR.zero (by omega))).mono (show 13000 ≤ 70000 by decide)
            repeat first | refine And.intro rfl ?_ | refine Or.inl (And.intro rfl ?_) | refine Or.inr (And.intro rfl ?_) | refine And.intro (fun (_ : true = true) => ?_) (fun (h : true = false) => Bool.noConfusion h) | refine And.intro (fun (h : false = true) => Bool.noConfusion h) (fun (_ : false = false) => ?_)
            refine And.intro (show 0 ≤ (k : Int) ∧ (k : Int) < ((LL.length : Nat) : Int) by omega) ?_
            rw [Int.toNat_natCast, a1]
            repeat first | refine And.intro rfl ?_ | refine And.intro True.intro ?_ | refine Or.inl (And.intro rfl ?_) | refine Or.inr (And.intro rfl ?_) | refine And.intro (fun (_ : true = true) => ?_) (fun (h : true = false) => Bool.noConfusion h) | refine And.intro (fun (h : false = true) => Bool.noConfusion h) (fun (_ : false = false) => ?_)
            refine And.intro (show 0 ≤ (0 : Int) ∧ (0 : Int) < (((L.map ptB).length : Nat) : Int) by rw [List.length_map]; omega) ?_
            rw [g1]
            repeat first | refine And.intro rfl ?_ | refine And.intro True.intro ?_ | refine Or.inl (And.intro rfl ?_) | refine Or.inr (And.intro rfl ?_) | refine And.intro (fun (_ : true = true) => ?_) (fun (h : true = false) => Bool.noConfusion h) | refine And.intro (fun (h : false = true) => Bool.noConfusion h) (fun (_ : false = false) => ?_)
            refine And.intro k1 ?_
            repeat first | refine And.intro rfl ?_ | refine And.intro True.intro ?_ | refine Or.inl (And.intro rfl ?_) | refine Or.inr (And.intro rfl ?_) | refine And.intro (fun (_ : true = true) => ?_) (fun (h : true = false) => Bool.noConfusion h) | refine And.intro (fun (h : false = true) => Bool.noConfusion h) (fun (_ : false = false) => ?_)
            refine And.intro (show (nB ((leftQ vs q).take k)).length + 1 ≤ 1000000 by rw [nB_len, List.length_take]; omega) ?_
            repeat first | refine And.intro rfl ?_ | refine And.intro True.intro ?_ | refine Or.inl (And.intro rfl ?_) | refine Or.inr (And.intro rfl ?_) | refine And.intro (fun (_ : true = true) => ?_) (fun (h : true = false) => Bool.noConfusion h) | refine And.intro (fun (h : false = true) => Bool.noConfusion h) (fun (_ : false = false) => ?_)
            refine And.intro (show 0 ≤ IntKind.i64.wrap _ ∧ IntKind.i64.wrap _ < ((LL.length : Nat) : Int) by rw [hw]; omega) ?_
            rw [hw, Int.toNat_natCast, b1]
            repeat first | refine And.intro rfl ?_ | refine And.intro True.intro ?_ | refine Or.inl (And.intro rfl ?_) | refine Or.inr (And.intro rfl ?_) | refine And.intro (fun (_ : true = true) => ?_) (fun (h : true = false) => Bool.noConfusion h) | refine And.intro (fun (h : false = true) => Bool.noConfusion h) (fun (_ : false = false) => ?_)
            refine And.intro (show 0 ≤ IntKind.i64.wrap (((R.map ptB).length : Int) - 1) ∧ IntKind.i64.wrap (((R.map ptB).length : Int) - 1) < (((R.map ptB).length : Nat) : Int) by rw [hw2, List.length_map]; omega) ?_
            rw [hw2, Int.toNat_natCast, g2]
            repeat first | refine And.intro rfl ?_ | refine And.intro True.intro ?_ | refine Or.inl (And.intro rfl ?_) | refine Or.inr (And.intro rfl ?_) | refine And.intro (fun (_ : true = true) => ?_) (fun (h : true = false) => Bool.noConfusion h) | refine And.intro (fun (h : false = true) => Bool.noConfusion h) (fun (_ : false = false) => ?_)
            refine And.intro k2 ?_
            repeat first | refine And.intro rfl ?_ | refine And.intro True.intro ?_ | refine Or.inl (And.intro rfl ?_) | refine Or.inr (And.intro rfl ?_) | refine And.intro (fun (_ : true = true) => ?_) (fun (h : true = false) => Bool.noConfusion h) | refine And.intro (fun (h : false = true) => Bool.noConfusion h) (fun (_ : false = false) => ?_)
            refine And.intro (show (nB ((rightQ vs q).take k)).length + 1 ≤ 1000000 by rw [nB_len, List.length_take]; omega) ?_
            repeat first | refine And.intro rfl ?_ | refine And.intro True.intro ?_ | refine Or.inl (And.intro rfl ?_) | refine Or.inr (And.intro rfl ?_) | refine And.intro (fun (_ : true = true) => ?_) (fun (h : true = false) => Bool.noConfusion h) | refine And.intro (fun (h : false = true) => Bool.noConfusion h) (fun (_ : false = false) => ?_)
            refine Exists.intro ⟨k + 1, by omega⟩ (And.intro (show ps.length - (k + 1) < ps.length - k by omega) ?_)
            repeat first | exact trivial | refine And.intro rfl ?_ | refine And.intro trivial ?_ | refine And.intro (And.intro rfl trivial) ?_ | refine And.intro (And.intro rfl (And.intro rfl trivial)) ?_
            refine And.intro (And.intro (rwSl ?_) (And.intro (rwSl ?_) trivial)) ?_
            · show nB ((leftQ vs q).take k) ++ [ptB (prQ (L.getD 0 PR.zero).v)] = nB ((leftQ vs q).take (k + 1))
              rw [nB_snoc _ _ (by omega), left_at (by omega) (by omega), ← a4, hd_of (by omega)]
            · show nB ((rightQ vs q).take k) ++ [ptB (prQ (R.getD (R.length - 1) PR.zero).v)] = nB ((rightQ vs q).take (k + 1))
              rw [nB_snoc _ _ (by omega), right_at (by omega) (by omega), hvl, ← b4, ls_of (by omega)]
            · repeat first | exact trivial | refine And.intro rfl ?_ | refine And.intro trivial ?_ | refine And.intro (And.intro rfl trivial) ?_ | refine And.intro (And.intro rfl (And.intro rfl trivial)) ?_
              exact And.intro (avI (show IntKind.i64.wrap ((k : Int) + 1) = ((k + 1 : Nat) : Int) by rw [wI (by omega) (by omega)]; omega)) trivial
          · have hk' : ¬ (k : Int) < (LL.length : Nat) := of_decide_eq_false hc
            have hkn : k = ps.length := by omega
            repeat first | refine And.intro rfl ?_ | refine And.intro True.intro ?_ | refine Or.inl (And.intro rfl ?_) | refine Or.inr (And.intro rfl ?_) | refine And.intro (fun (_ : true = true) => ?_) (fun (h : true = false) => Bool.noConfusion h) | refine And.intro (fun (h : false = true) => Bool.noConfusion h) (fun (_ : false = false) => ?_)
            show Res.t [.one (.sl 6 (nB ((leftQ vs q).take k))), .one (.sl 6 (nB ((rightQ vs q).take k))), .val (.int .i64 0)] = _
            rw [List.take_of_length_le (by omega), List.take_of_length_le (by omega)]
            rfl
  · cases h

end Go.Gm
