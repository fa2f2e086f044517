/-
  The curves of the reference, part B: Reverse, Split, Box. Plain theorems; no condition.
-/
import Derived.Test.YtihmifpdnipdmaaR9r
set_option linter.all false
namespace Go.Gm
open Go.Proofs

theorem nB_get (l : List (Rat × Rat)) (i : Nat) (hi : i < l.length) : (nB l).getD i [] = ptB (prQ (l.getD i (0, 0))) := by
  simp [nB, nrm, List.getD_eq_getElem?_getD, hi]
theorem rev_getD {α : Type} (l : List α) (j : Nat) (d : α) (hj : j < l.length) : l.reverse.getD j d = l.getD (l.length - 1 - j) d := by
  rw [List.getD_eq_getElem?_getD, List.getD_eq_getElem?_getD, List.getElem?_reverse hj]

set_option maxHeartbeats 1000000 in
theorem ok_yReverse : Ok1 97 sReverse := by
  refine ok_of TY1_ok Try.func97 rfl (by kernel_rfl) ?_
  intro xs pre res h hp hlim
  unfold sReverse at h
  split at h
  · rename_i c
    cases h
    obtain ⟨hsh, hp1⟩ := hp
    refine And.intro (Nat.le_of_ble_eq_true rfl) ?_
    repeat first | refine And.intro rfl ?_ | refine Or.inl (And.intro rfl ?_) | refine Or.inr (And.intro rfl ?_) | refine And.intro (fun (_ : true = true) => ?_) (fun (h : true = false) => Bool.noConfusion h) | refine And.intro (fun (h : false = true) => Bool.noConfusion h) (fun (_ : false = false) => ?_)
    refine And.intro (show ShP 60000 c ∧ c.length ≤ 1000 from ⟨hsh, hp1⟩) ?_
    obtain ⟨vs, hvs⟩ : ∃ vs, vs = valsOf c := ⟨_, rfl⟩
    have hvl : vs.length = c.length := by rw [hvs]; simp [valsOf, ptsOf]
    rw [← hvs]
    repeat first | refine And.intro rfl ?_ | refine Or.inl (And.intro rfl ?_) | refine Or.inr (And.intro rfl ?_) | refine And.intro (fun (_ : true = true) => ?_) (fun (h : true = false) => Bool.noConfusion h) | refine And.intro (fun (h : false = true) => Bool.noConfusion h) (fun (_ : false = false) => ?_)
    refine Exists.intro {j : Nat // j ≤ vs.length} (Exists.intro (fun j => ⟨[(3, .one (.sl 6 (nB vs))), (4, .own 0), (5, .val (.int .i64 ((vs.length : Int) - 1 - (j.1 : Nat))))], ⟨[], [.s 38 6 (nB (vs.reverse.take j.1))]⟩⟩) (Exists.intro (fun j => vs.length - j.1) (Exists.intro ⟨0, Nat.zero_le _⟩ (And.intro ?_ ?_))))
    · repeat first | exact trivial | refine And.intro rfl ?_ | refine And.intro trivial ?_ | refine And.intro (And.intro rfl trivial) ?_ | refine And.intro (And.intro rfl (And.intro rfl trivial)) ?_
      refine And.intro (avI ?_) trivial
      show IntKind.i64.wrap ((((nB vs).length : Nat) : Int) - 1) = (vs.length : Int) - 1 - ((0 : Nat) : Int)
      rw [nB_len, wI (by omega) (by omega)]
      omega
    · rintro ⟨j, hj⟩
      repeat first | refine And.intro rfl ?_ | refine Or.inl (And.intro rfl ?_) | refine Or.inr (And.intro rfl ?_) | refine And.intro (fun (_ : true = true) => ?_) (fun (h : true = false) => Bool.noConfusion h) | refine And.intro (fun (h : false = true) => Bool.noConfusion h) (fun (_ : false = false) => ?_)
      refine And.intro (fun hc => ?_) (fun hc => ?_)
      · have hj' : (vs.length : Int) - 1 - (j : Int) ≥ 0 := of_decide_eq_true hc
        have hidx : ((vs.length : Int) - 1 - (j : Int)).toNat = vs.length - 1 - j := by omega
        have g1 : (nB vs).getD ((vs.length : Int) - 1 - (j : Int)).toNat [] = ptB (prQ (vs.reverse.getD j (0, 0))) := by
          rw [hidx, nB_get _ _ (by omega), rev_getD _ _ _ (by omega)]
        repeat first | refine And.intro rfl ?_ | refine Or.inl (And.intro rfl ?_) | refine Or.inr (And.intro rfl ?_) | refine And.intro (fun (_ : true = true) => ?_) (fun (h : true = false) => Bool.noConfusion h) | refine And.intro (fun (h : false = true) => Bool.noConfusion h) (fun (_ : false = false) => ?_)
        refine And.intro (show 0 ≤ (vs.length : Int) - 1 - (j : Int) ∧ (vs.length : Int) - 1 - (j : Int) < (((nB vs).length : Nat) : Int) by rw [nB_len]; omega) ?_
        rw [g1]
        repeat first | refine And.intro rfl ?_ | refine And.intro True.intro ?_ | refine Or.inl (And.intro rfl ?_) | refine Or.inr (And.intro rfl ?_) | refine And.intro (fun (_ : true = true) => ?_) (fun (h : true = false) => Bool.noConfusion h) | refine And.intro (fun (h : false = true) => Bool.noConfusion h) (fun (_ : false = false) => ?_)
        refine And.intro (show (nB (vs.reverse.take j)).length + 1 ≤ 1000000 by rw [nB_len, List.length_take]; omega) ?_
        repeat first | refine And.intro rfl ?_ | refine Or.inl (And.intro rfl ?_) | refine Or.inr (And.intro rfl ?_) | refine And.intro (fun (_ : true = true) => ?_) (fun (h : true = false) => Bool.noConfusion h) | refine And.intro (fun (h : false = true) => Bool.noConfusion h) (fun (_ : false = false) => ?_)
        refine Exists.intro ⟨j + 1, by omega⟩ (And.intro (show vs.length - (j + 1) < vs.length - j by omega) ?_)
        repeat first | exact trivial | refine And.intro rfl ?_ | refine And.intro trivial ?_ | refine And.intro (And.intro rfl trivial) ?_ | refine And.intro (And.intro rfl (And.intro rfl trivial)) ?_
        refine And.intro (And.intro (rwSl ?_) trivial) ?_
        · rw [nB_snoc _ _ (by rw [List.length_reverse]; omega)]
          rfl
        · repeat first | exact trivial | refine And.intro rfl ?_ | refine And.intro trivial ?_ | refine And.intro (And.intro rfl trivial) ?_ | refine And.intro (And.intro rfl (And.intro rfl trivial)) ?_
          exact And.intro (avI (show IntKind.i64.wrap ((vs.length : Int) - 1 - (j : Int) - 1) = (vs.length : Int) - 1 - ((j + 1 : Nat) : Int) by rw [wI (by omega) (by omega)]; omega)) trivial
      · have hj' : ¬ (vs.length : Int) - 1 - (j : Int) ≥ 0 := of_decide_eq_false hc
        repeat first | refine And.intro rfl ?_ | refine Or.inl (And.intro rfl ?_) | refine Or.inr (And.intro rfl ?_) | refine And.intro (fun (_ : true = true) => ?_) (fun (h : true = false) => Bool.noConfusion h) | refine And.intro (fun (h : false = true) => Bool.noConfusion h) (fun (_ : false = false) => ?_)
        refine resSl ?_
        show nB (vs.reverse.take j) = nB vs.reverse
        rw [List.take_of_length_le (by rw [List.length_reverse]; omega)]
  · cases h

/-! Split. -/

theorem lvl_next : ∀ (m k : Nat) (l : List (Rat × Rat)) (t : Rat), k < m → (lvlQ m l t).getD k [] = divQ ((l :: lvlQ m l t).getD k []) t
  | 0, _, _, _, h => by omega
  | m + 1, 0, l, t, _ => rfl
  | m + 1, k + 1, l, t, h => by
    show (lvlQ m (divQ l t) t).getD k [] = divQ ((divQ l t :: lvlQ m (divQ l t) t).getD k []) t
    exact lvl_next m k (divQ l t) t (by omega)
theorem lvls_next (l : List (Rat × Rat)) (t : Rat) (k : Nat) (h : k + 1 < l.length) : divQ ((lvls l t).getD k []) t = (lvls l t).getD (k + 1) [] :=
  (lvl_next (l.length - 1) k l t (by omega)).symm
theorem hd_getD (l : List (Rat × Rat)) : l.getD 0 (0, 0) = hdQ l := by cases l <;> rfl
theorem ls_getD (l : List (Rat × Rat)) : l.getD (l.length - 1) (0, 0) = lsQ l := by
  unfold lsQ
  rw [List.getLastD_eq_getLast?, List.getLast?_eq_getElem?, List.getD_eq_getElem?_getD]
theorem drop_getDR {α : Type} {l : List α} {k : Nat} (d : α) (hk : k < l.length) : l.drop k = l.getD k d :: l.drop (k + 1) := by
  rw [List.drop_eq_getElem_cons hk, List.getD_eq_getElem?_getD, List.getElem?_eq_getElem hk]
  rfl

/-- What holds of the lists of Split. -/
structure SplI (vs : List (Rat × Rat)) (q : Rat) (k : Nat) (L R cur : List (Rat × Rat)) : Prop where
  len : cur.length + k = vs.length
  pos : 0 < cur.length
  sp : ∀ p, p ∈ cur → Sp (sC k) p
  cur : cur = (lvls vs q).getD k []
  L : L = (leftQ vs q).take (k + 1)
  R : R = (rightQ vs q).drop (vs.length - 1 - k)

theorem SplI.next {vs : List (Rat × Rat)} {q : Rat} {k : Nat} {L R cur : List (Rat × Rat)} (h : SplI vs q k L R cur) (hq : Sz 301 q) (h1 : 1 < cur.length) :
    SplI vs q (k + 1) (L ++ [(divQ cur q).getD 0 (0, 0)]) ((divQ cur q).getD ((divQ cur q).length - 1) (0, 0) :: R) (divQ cur q) := by
  have hl := h.len
  have hd := divQ_len cur q
  have hc : divQ cur q = (lvls vs q).getD (k + 1) [] := by rw [h.cur]; exact lvls_next vs q k (by omega)
  refine ⟨by omega, by omega, divQ_sp hq h.sp, hc, ?_, ?_⟩
  · rw [h.L, take_snoc (leftQ vs q) (0, 0) (k + 1) (by rw [leftQ_len q (by omega)]; omega), left_at (by omega) (by omega), hd_getD, hc]
  · have e := drop_getDR (l := rightQ vs q) (k := vs.length - 1 - (k + 1)) (0, 0) (by rw [rightQ_len q (by omega)]; omega)
    rw [show vs.length - 1 - (k + 1) + 1 = vs.length - 1 - k by omega, right_at (by omega) (by omega), show vs.length - 1 - (vs.length - 1 - (k + 1)) = k + 1 by omega] at e
    rw [e, ls_getD, hc, h.R]
theorem SplI.fin {vs : List (Rat × Rat)} {q : Rat} {k : Nat} {L R cur : List (Rat × Rat)} (h : SplI vs q k L R cur) (h1 : ¬ 1 < cur.length) : L = leftQ vs q ∧ R = rightQ vs q := by
  have hl := h.len
  have hp := h.pos
  refine ⟨?_, ?_⟩
  · rw [h.L, List.take_of_length_le (by rw [leftQ_len q (by omega)]; omega)]
  · rw [h.R, show vs.length - 1 - k = 0 by omega, List.drop_zero]
theorem SplI.start {vs : List (Rat × Rat)} {q : Rat} (h1 : 0 < vs.length) (hs : ∀ p, p ∈ vs → Sp (sC 0) p) : SplI vs q 0 [vs.getD 0 (0, 0)] [vs.getD (vs.length - 1) (0, 0)] vs := by
  refine ⟨rfl, h1, hs, rfl, ?_, ?_⟩
  · rw [take_snoc (leftQ vs q) (0, 0) 0 (by rw [leftQ_len q h1]; omega), left_at h1 h1, hd_getD]
    rfl
  · have e := drop_getDR (l := rightQ vs q) (k := vs.length - 1 - 0) (0, 0) (by rw [rightQ_len q h1]; omega)
    rw [right_at h1 (by omega), show vs.length - 1 - (vs.length - 1 - 0) = 0 by omega] at e
    have e2 : (rightQ vs q).drop (vs.length - 1 - 0 + 1) = [] := List.drop_of_length_le (by rw [rightQ_len q h1]; omega)
    rw [e2] at e
    rw [e, ls_getD]
    rfl

theorem nB_app (L : List (Rat × Rat)) (x : Rat × Rat) : nB (L ++ [x]) = nB L ++ [ptB (prQ x)] := by simp [nB, nrm]
theorem resSpl {l l' r r' : List (List BV)} (h : l = l') (h' : r = r') : Res.t [.one (.sl 6 l), .one (.sl 6 r), .val (.int .i64 0)] = Res.t [.one (.sl 6 l'), .one (.sl 6 r'), .val (.int .i64 0)] := by rw [h, h']


abbrev splS (s : Bool) (l t : List Nat) (cur : List (Rat × Rat)) (k : Nat) (rs : List Rw) : St :=
  ⟨[(3, .ptr 0 0), (4, .own 1), (5, .own k), (7, .one (.sl 6 (nB cur)))], ⟨[(36, [.val (.bool s), .nat l, .nat t])], rs⟩⟩

set_option maxHeartbeats 2000000 in
theorem ok_ySplit : Ok1 94 sSplit := by
  refine ok_of TY1_ok Try.func94 rfl (by kernel_rfl) ?_
  intro xs pre res h hp hlim
  unfold sSplit at h
  split at h
  · rename_i c s l t
    cases h
    obtain ⟨hsh, hp1, hp2⟩ := hp
    have hl : Lim l := hlim.2.1.2.1
    have ht : Lim t := hlim.2.1.2.2.1
    have hsz : Sz 301 (rq s l t) := Sz.rq hl ht hp1 hp2
    cases hv : okC c with
    | false =>
      refine And.intro (Nat.le_of_ble_eq_true rfl) ?_
      repeat first | refine And.intro rfl ?_ | refine Or.inl (And.intro rfl ?_) | refine Or.inr (And.intro rfl ?_) | refine And.intro (fun (_ : true = true) => ?_) (fun (h : true = false) => Bool.noConfusion h) | refine And.intro (fun (h : false = true) => Bool.noConfusion h) (fun (_ : false = false) => ?_)
      repeat first | refine And.intro rfl ?_ | refine And.intro True.intro ?_ | refine Or.inl (And.intro rfl ?_) | refine Or.inr (And.intro rfl ?_) | refine And.intro (fun (_ : true = true) => ?_) (fun (h : true = false) => Bool.noConfusion h) | refine And.intro (fun (h : false = true) => Bool.noConfusion h) (fun (_ : false = false) => ?_)
      refine And.intro (fun hc => ?_) (fun hc => ?_)
      · repeat first | refine And.intro rfl ?_ | refine And.intro True.intro ?_ | refine Or.inl (And.intro rfl ?_) | refine Or.inr (And.intro rfl ?_) | refine And.intro (fun (_ : true = true) => ?_) (fun (h : true = false) => Bool.noConfusion h) | refine And.intro (fun (h : false = true) => Bool.noConfusion h) (fun (_ : false = false) => ?_)
        rfl
      · rw [show decide (2 ≤ c.length ∧ c.length ≤ 4) = false from hv] at hc
        cases hc
    | true =>
      have hv' := of_decide_eq_true hv
      obtain ⟨ps, rfl, hps, hpl⟩ := sh_le hsh
      rw [← hpl] at hv'
      have hlm := lm_of hlim.1
      rw [valsOf_B]
      have vc := valsOf_B ps
      have svs := sp_vals hlm hps
      obtain ⟨vs, hvs⟩ : ∃ vs, vs = ps.map PR.v := ⟨_, rfl⟩
      have hvl : vs.length = ps.length := by rw [hvs, List.length_map]
      rw [← hvs] at vc svs ⊢
      obtain ⟨q, hq⟩ : ∃ q, q = rq s l t := ⟨_, rfl⟩
      rw [← hq] at hsz ⊢
      have hI0 : SplI vs q 0 [vs.getD 0 (0, 0)] [vs.getD (vs.length - 1) (0, 0)] vs := SplI.start (by omega) svs
      have g0 : (nB vs).getD 0 [] = ptB (prQ (vs.getD 0 (0, 0))) := nB_get _ _ (by omega)
      have gw : IntKind.i64.wrap ((((nB vs).length : Nat) : Int) - 1) = ((vs.length - 1 : Nat) : Int) := by rw [nB_len, wI (by omega) (by omega)]; omega
      have g1 : (nB vs).getD (vs.length - 1) [] = ptB (prQ (vs.getD (vs.length - 1) (0, 0))) := nB_get _ _ (by omega)
      refine And.intro (Nat.le_of_ble_eq_true rfl) ?_
      repeat first | refine And.intro rfl ?_ | refine Or.inl (And.intro rfl ?_) | refine Or.inr (And.intro rfl ?_) | refine And.intro (fun (_ : true = true) => ?_) (fun (h : true = false) => Bool.noConfusion h) | refine And.intro (fun (h : false = true) => Bool.noConfusion h) (fun (_ : false = false) => ?_)
      repeat first | refine And.intro rfl ?_ | refine And.intro True.intro ?_ | refine Or.inl (And.intro rfl ?_) | refine Or.inr (And.intro rfl ?_) | refine And.intro (fun (_ : true = true) => ?_) (fun (h : true = false) => Bool.noConfusion h) | refine And.intro (fun (h : false = true) => Bool.noConfusion h) (fun (_ : false = false) => ?_)
      refine And.intro (fun hc => ?_) (fun hc => ?_)
      · rw [show decide (2 ≤ (ps.map ptB).length ∧ (ps.map ptB).length ≤ 4) = true from hv] at hc
        cases hc
      · repeat first | refine And.intro rfl ?_ | refine And.intro True.intro ?_ | refine Or.inl (And.intro rfl ?_) | refine Or.inr (And.intro rfl ?_) | refine And.intro (fun (_ : true = true) => ?_) (fun (h : true = false) => Bool.noConfusion h) | refine And.intro (fun (h : false = true) => Bool.noConfusion h) (fun (_ : false = false) => ?_)
        refine And.intro (show ShP 60000 (ps.map ptB) ∧ (ps.map ptB).length ≤ 1000 from ⟨sh_ps hps (by decide), by rw [List.length_map]; omega⟩) ?_
        rw [vc]
        repeat first | refine And.intro rfl ?_ | refine And.intro True.intro ?_ | refine Or.inl (And.intro rfl ?_) | refine Or.inr (And.intro rfl ?_) | refine And.intro (fun (_ : true = true) => ?_) (fun (h : true = false) => Bool.noConfusion h) | refine And.intro (fun (h : false = true) => Bool.noConfusion h) (fun (_ : false = false) => ?_)
        refine And.intro (show 0 ≤ (0 : Int) ∧ (0 : Int) < (((nB vs).length : Nat) : Int) by rw [nB_len]; omega) ?_
        rw [show (0 : Int).toNat = 0 from rfl, g0]
        repeat first | refine And.intro rfl ?_ | refine And.intro True.intro ?_ | refine Or.inl (And.intro rfl ?_) | refine Or.inr (And.intro rfl ?_) | refine And.intro (fun (_ : true = true) => ?_) (fun (h : true = false) => Bool.noConfusion h) | refine And.intro (fun (h : false = true) => Bool.noConfusion h) (fun (_ : false = false) => ?_)
        refine And.intro (show 0 + 1 ≤ 1000000 by decide) ?_
        repeat first | refine And.intro rfl ?_ | refine And.intro True.intro ?_ | refine Or.inl (And.intro rfl ?_) | refine Or.inr (And.intro rfl ?_) | refine And.intro (fun (_ : true = true) => ?_) (fun (h : true = false) => Bool.noConfusion h) | refine And.intro (fun (h : false = true) => Bool.noConfusion h) (fun (_ : false = false) => ?_)
        refine And.intro (show 0 ≤ IntKind.i64.wrap _ ∧ IntKind.i64.wrap _ < (((nB vs).length : Nat) : Int) by rw [gw, nB_len]; omega) ?_
        rw [gw, Int.toNat_natCast, g1]
        repeat first | refine And.intro rfl ?_ | refine And.intro True.intro ?_ | refine Or.inl (And.intro rfl ?_) | refine Or.inr (And.intro rfl ?_) | refine And.intro (fun (_ : true = true) => ?_) (fun (h : true = false) => Bool.noConfusion h) | refine And.intro (fun (h : false = true) => Bool.noConfusion h) (fun (_ : false = false) => ?_)
        refine And.intro (show 0 + 1 ≤ 1000000 by decide) ?_
        repeat first | refine And.intro rfl ?_ | refine And.intro True.intro ?_ | refine Or.inl (And.intro rfl ?_) | refine Or.inr (And.intro rfl ?_) | refine And.intro (fun (_ : true = true) => ?_) (fun (h : true = false) => Bool.noConfusion h) | refine And.intro (fun (h : false = true) => Bool.noConfusion h) (fun (_ : false = false) => ?_)
        refine Exists.intro {x : Nat × List (Rat × Rat) × List (Rat × Rat) × List (Rat × Rat) // x.1 ≤ 3 ∧ SplI vs q x.1 x.2.1 x.2.2.1 x.2.2.2} (Exists.intro (fun x => match x.1.1 with
          | 0 => splS s l t x.1.2.2.2 3 [.dead, .s 38 6 (nB x.1.2.1), .dead, .s 38 6 (nB x.1.2.2.1)]
          | 1 => splS s l t x.1.2.2.2 5 [.dead, .s 38 6 (nB x.1.2.1), .dead, .dead, .dead, .s 38 6 (nB x.1.2.2.1)]
          | 2 => splS s l t x.1.2.2.2 7 [.dead, .s 38 6 (nB x.1.2.1), .dead, .dead, .dead, .dead, .dead, .s 38 6 (nB x.1.2.2.1)]
          | _ => splS s l t x.1.2.2.2 9 [.dead, .s 38 6 (nB x.1.2.1), .dead, .dead, .dead, .dead, .dead, .dead, .dead, .s 38 6 (nB x.1.2.2.1)]) (Exists.intro (fun x => x.1.2.2.2.length) (Exists.intro ⟨(0, [vs.getD 0 (0, 0)], [vs.getD (vs.length - 1) (0, 0)], vs), by omega, hI0⟩ (And.intro ?_ ?_))))
        · repeat first | exact trivial | refine And.intro rfl ?_ | refine And.intro trivial ?_ | refine And.intro (And.intro rfl trivial) ?_ | refine And.intro (And.intro rfl (And.intro rfl trivial)) ?_
          refine And.intro (And.intro rfl (And.intro rfl (And.intro rfl (And.intro rfl trivial)))) ?_
          repeat first | exact trivial | refine And.intro rfl ?_ | refine And.intro trivial ?_ | refine And.intro (And.intro rfl trivial) ?_ | refine And.intro (And.intro rfl (And.intro rfl trivial)) ?_
        · rintro ⟨⟨k, L, R, cur⟩, hk, hI⟩
          simp only at hk hI
          match k, hk with
          | 0, _ =>
            have vcur := vals_nB cur
            have hlc := hI.len
            repeat first | refine And.intro rfl ?_ | refine Or.inl (And.intro rfl ?_) | refine Or.inr (And.intro rfl ?_) | refine And.intro (fun (_ : true = true) => ?_) (fun (h : true = false) => Bool.noConfusion h) | refine And.intro (fun (h : false = true) => Bool.noConfusion h) (fun (_ : false = false) => ?_)
            refine And.intro (fun hc => ?_) (fun hc => ?_)
            · have h1 : 1 < cur.length := by
                have : (((nB cur).length : Nat) : Int) > 1 := of_decide_eq_true hc
                rw [nB_len] at this
                omega
              have hdl := divQ_len cur q
              have hI2 := hI.next hsz h1
              have g0 : (nB (divQ cur q)).getD 0 [] = ptB (prQ ((divQ cur q).getD 0 (0, 0))) := nB_get _ _ (by omega)
              have gw : IntKind.i64.wrap ((((nB (divQ cur q)).length : Nat) : Int) - 1) = (((divQ cur q).length - 1 : Nat) : Int) := by rw [nB_len, wI (by omega) (by omega)]; omega
              have g1 : (nB (divQ cur q)).getD ((divQ cur q).length - 1) [] = ptB (prQ ((divQ cur q).getD ((divQ cur q).length - 1) (0, 0))) := nB_get _ _ (by omega)
              repeat first | refine And.intro rfl ?_ | refine Or.inl (And.intro rfl ?_) | refine Or.inr (And.intro rfl ?_) | refine And.intro (fun (_ : true = true) => ?_) (fun (h : true = false) => Bool.noConfusion h) | refine And.intro (fun (h : false = true) => Bool.noConfusion h) (fun (_ : false = false) => ?_)
              refine And.intro (show ShP 4000 (nB cur) ∧ (nB cur).length ≤ 1000 ∧ l.length ≤ 4000 ∧ t.length ≤ 4000 from ⟨sh_nB hI.sp (sC_le (by omega)), by rw [nB_len]; omega, by omega, by omega⟩) ?_
              rw [vcur, ← hq]
              repeat first | refine And.intro rfl ?_ | refine Or.inl (And.intro rfl ?_) | refine Or.inr (And.intro rfl ?_) | refine And.intro (fun (_ : true = true) => ?_) (fun (h : true = false) => Bool.noConfusion h) | refine And.intro (fun (h : false = true) => Bool.noConfusion h) (fun (_ : false = false) => ?_)
              refine And.intro (show 0 ≤ (0 : Int) ∧ (0 : Int) < (((nB (divQ cur q)).length : Nat) : Int) by rw [nB_len]; omega) ?_
              rw [show (0 : Int).toNat = 0 from rfl, g0]
              repeat first | refine And.intro rfl ?_ | refine And.intro True.intro ?_ | refine Or.inl (And.intro rfl ?_) | refine Or.inr (And.intro rfl ?_) | refine And.intro (fun (_ : true = true) => ?_) (fun (h : true = false) => Bool.noConfusion h) | refine And.intro (fun (h : false = true) => Bool.noConfusion h) (fun (_ : false = false) => ?_)
              refine And.intro (show (nB L).length + 1 ≤ 1000000 by rw [nB_len, hI.L, List.length_take]; omega) ?_
              repeat first | refine And.intro rfl ?_ | refine And.intro True.intro ?_ | refine Or.inl (And.intro rfl ?_) | refine Or.inr (And.intro rfl ?_) | refine And.intro (fun (_ : true = true) => ?_) (fun (h : true = false) => Bool.noConfusion h) | refine And.intro (fun (h : false = true) => Bool.noConfusion h) (fun (_ : false = false) => ?_)
              refine And.intro (show 0 ≤ IntKind.i64.wrap _ ∧ IntKind.i64.wrap _ < (((nB (divQ cur q)).length : Nat) : Int) by rw [gw, nB_len]; omega) ?_
              rw [gw, Int.toNat_natCast, g1]
              repeat first | refine And.intro rfl ?_ | refine And.intro True.intro ?_ | refine Or.inl (And.intro rfl ?_) | refine Or.inr (And.intro rfl ?_) | refine And.intro (fun (_ : true = true) => ?_) (fun (h : true = false) => Bool.noConfusion h) | refine And.intro (fun (h : false = true) => Bool.noConfusion h) (fun (_ : false = false) => ?_)
              refine And.intro (show 1 + (nB R).length ≤ 1000000 by rw [nB_len, hI.R, List.length_drop, rightQ_len q (by omega)]; omega) ?_
              repeat first | refine And.intro rfl ?_ | refine And.intro True.intro ?_ | refine Or.inl (And.intro rfl ?_) | refine Or.inr (And.intro rfl ?_) | refine And.intro (fun (_ : true = true) => ?_) (fun (h : true = false) => Bool.noConfusion h) | refine And.intro (fun (h : false = true) => Bool.noConfusion h) (fun (_ : false = false) => ?_)
              refine Exists.intro ⟨(1, _, _, _), by omega, hI2⟩ (And.intro (show (divQ cur q).length < cur.length by omega) ?_)
              repeat first | exact trivial | refine And.intro rfl ?_ | refine And.intro trivial ?_ | refine And.intro (And.intro rfl trivial) ?_ | refine And.intro (And.intro rfl (And.intro rfl trivial)) ?_
              refine And.intro (And.intro rfl (And.intro (rwSl ?_) (And.intro rfl (And.intro rfl (And.intro rfl (And.intro rfl trivial)))))) ?_
              · exact (nB_app L _).symm
              · repeat first | exact trivial | refine And.intro rfl ?_ | refine And.intro trivial ?_ | refine And.intro (And.intro rfl trivial) ?_ | refine And.intro (And.intro rfl (And.intro rfl trivial)) ?_
            · have h1 : ¬ 1 < cur.length := by
                have : ¬ (((nB cur).length : Nat) : Int) > 1 := of_decide_eq_false hc
                rw [nB_len] at this
                omega
              obtain ⟨eL, eR⟩ := hI.fin h1
              repeat first | refine And.intro rfl ?_ | refine And.intro True.intro ?_ | refine Or.inl (And.intro rfl ?_) | refine Or.inr (And.intro rfl ?_) | refine And.intro (fun (_ : true = true) => ?_) (fun (h : true = false) => Bool.noConfusion h) | refine And.intro (fun (h : false = true) => Bool.noConfusion h) (fun (_ : false = false) => ?_)
              exact resSpl (show nB L = nB (leftQ vs q) by rw [eL]) (show nB R = nB (rightQ vs q) by rw [eR])
          | 1, _ =>
            have vcur := vals_nB cur
            have hlc := hI.len
            repeat first | refine And.intro rfl ?_ | refine Or.inl (And.intro rfl ?_) | refine Or.inr (And.intro rfl ?_) | refine And.intro (fun (_ : true = true) => ?_) (fun (h : true = false) => Bool.noConfusion h) | refine And.intro (fun (h : false = true) => Bool.noConfusion h) (fun (_ : false = false) => ?_)
            refine And.intro (fun hc => ?_) (fun hc => ?_)
            · have h1 : 1 < cur.length := by
                have : (((nB cur).length : Nat) : Int) > 1 := of_decide_eq_true hc
                rw [nB_len] at this
                omega
              have hdl := divQ_len cur q
              have hI2 := hI.next hsz h1
              have g0 : (nB (divQ cur q)).getD 0 [] = ptB (prQ ((divQ cur q).getD 0 (0, 0))) := nB_get _ _ (by omega)
              have gw : IntKind.i64.wrap ((((nB (divQ cur q)).length : Nat) : Int) - 1) = (((divQ cur q).length - 1 : Nat) : Int) := by rw [nB_len, wI (by omega) (by omega)]; omega
              have g1 : (nB (divQ cur q)).getD ((divQ cur q).length - 1) [] = ptB (prQ ((divQ cur q).getD ((divQ cur q).length - 1) (0, 0))) := nB_get _ _ (by omega)
              repeat first | refine And.intro rfl ?_ | refine Or.inl (And.intro rfl ?_) | refine Or.inr (And.intro rfl ?_) | refine And.intro (fun (_ : true = true) => ?_) (fun (h : true = false) => Bool.noConfusion h) | refine And.intro (fun (h : false = true) => Bool.noConfusion h) (fun (_ : false = false) => ?_)
              refine And.intro (show ShP 4000 (nB cur) ∧ (nB cur).length ≤ 1000 ∧ l.length ≤ 4000 ∧ t.length ≤ 4000 from ⟨sh_nB hI.sp (sC_le (by omega)), by rw [nB_len]; omega, by omega, by omega⟩) ?_
              rw [vcur, ← hq]
              repeat first | refine And.intro rfl ?_ | refine Or.inl (And.intro rfl ?_) | refine Or.inr (And.intro rfl ?_) | refine And.intro (fun (_ : true = true) => ?_) (fun (h : true = false) => Bool.noConfusion h) | refine And.intro (fun (h : false = true) => Bool.noConfusion h) (fun (_ : false = false) => ?_)
              refine And.intro (show 0 ≤ (0 : Int) ∧ (0 : Int) < (((nB (divQ cur q)).length : Nat) : Int) by rw [nB_len]; omega) ?_
              rw [show (0 : Int).toNat = 0 from rfl, g0]
              repeat first | refine And.intro rfl ?_ | refine And.intro True.intro ?_ | refine Or.inl (And.intro rfl ?_) | refine Or.inr (And.intro rfl ?_) | refine And.intro (fun (_ : true = true) => ?_) (fun (h : true = false) => Bool.noConfusion h) | refine And.intro (fun (h : false = true) => Bool.noConfusion h) (fun (_ : false = false) => ?_)
              refine And.intro (show (nB L).length + 1 ≤ 1000000 by rw [nB_len, hI.L, List.length_take]; omega) ?_
              repeat first | refine And.intro rfl ?_ | refine And.intro True.intro ?_ | refine Or.inl (And.intro rfl ?_) | refine Or.inr (And.intro rfl ?_) | refine And.intro (fun (_ : true = true) => ?_) (fun (h : true = false) => Bool.noConfusion h) | refine And.intro (fun (h : false = true) => Bool.noConfusion h) (fun (_ : false = false) => ?_)
              refine And.intro (show 0 ≤ IntKind.i64.wrap _ ∧ IntKind.i64.wrap _ < (((nB (divQ cur q)).length : Nat) : Int) by rw [gw, nB_len]; omega) ?_
              rw [gw, Int.toNat_natCast, g1]
              repeat first | refine And.intro rfl ?_ | refine And.intro True.intro ?_ | refine Or.inl (And.intro rfl ?_) | refine Or.inr (And.intro rfl ?_) | refine And.intro (fun (_ : true = true) => ?_) (fun (h : true = false) => Bool.noConfusion h) | refine And.intro (fun (h : false = true) => Bool.noConfusion h) (fun (_ : false = false) => ?_)
              refine And.intro (show 1 + (nB R).length ≤ 1000000 by rw [nB_len, hI.R, List.length_drop, rightQ_len q (by omega)]; omega) ?_
              repeat first | refine And.intro rfl ?_ | refine And.intro True.intro ?_ | refine Or.inl (And.intro rfl ?_) | refine Or.inr (And.intro rfl ?_) | refine And.intro (fun (_ : true = true) => ?_) (fun (h : true = false) => Bool.noConfusion h) | refine And.intro (fun (h : false = true) => Bool.noConfusion h) (fun (_ : false = false) => ?_)
              refine Exists.intro ⟨(2, _, _, _), by omega, hI2⟩ (And.intro (show (divQ cur q).length < cur.length by omega) ?_)
              repeat first | exact trivial | refine And.intro rfl ?_ | refine And.intro trivial ?_ | refine And.intro (And.intro rfl trivial) ?_ | refine And.intro (And.intro rfl (And.intro rfl trivial)) ?_
              refine And.intro (And.intro rfl (And.intro (rwSl ?_) (And.intro rfl (And.intro rfl (And.intro rfl (And.intro rfl (And.intro rfl (And.intro rfl trivial)))))))) ?_
              · exact (nB_app L _).symm
              · repeat first | exact trivial | refine And.intro rfl ?_ | refine And.intro trivial ?_ | refine And.intro (And.intro rfl trivial) ?_ | refine And.intro (And.intro rfl (And.intro rfl trivial)) ?_
            · have h1 : ¬ 1 < cur.length := by
                have : ¬ (((nB cur).length : Nat) : Int) > 1 := of_decide_eq_false hc
                rw [nB_len] at this
                omega
              obtain ⟨eL, eR⟩ := hI.fin h1
              repeat first | refine And.intro rfl ?_ | refine And.intro True.intro ?_ | refine Or.inl (And.intro rfl ?_) | refine Or.inr (And.intro rfl ?_) | refine And.intro (fun (_ : true = true) => ?_) (fun (h : true = false) => Bool.noConfusion h) | refine And.intro (fun (h : false = true) => Bool.noConfusion h) (fun (_ : false = false) => ?_)
              exact resSpl (show nB L = nB (leftQ vs q) by rw [eL]) (show nB R = nB (rightQ vs q) by rw [eR])
          | 2, _ =>
            have vcur := vals_nB cur
            have hlc := hI.len
            repeat first | refine And.intro rfl ?_ | refine Or.inl (And.intro rfl ?_) | refine Or.inr (And.intro rfl ?_) | refine And.intro (fun (_ : true = true) => ?_) (fun (h : true = false) => Bool.noConfusion h) | refine And.intro (fun (h : false = true) => Bool.noConfusion h) (fun (_ : false = false) => ?_)
            refine And.intro (fun hc => ?_) (fun hc => ?_)
            · have h1 : 1 < cur.length := by
                have : (((nB cur).length : Nat) : Int) > 1 := of_decide_eq_true hc
                rw [nB_len] at this
                omega
              have hdl := divQ_len cur q
              have hI2 := hI.next hsz h1
              have g0 : (nB (divQ cur q)).getD 0 [] = ptB (prQ ((divQ cur q).getD 0 (0, 0))) := nB_get _ _ (by omega)
              have gw : IntKind.i64.wrap ((((nB (divQ cur q)).length : Nat) : Int) - 1) = (((divQ cur q).length - 1 : Nat) : Int) := by rw [nB_len, wI (by omega) (by omega)]; omega
              have g1 : (nB (divQ cur q)).getD ((divQ cur q).length - 1) [] = ptB (prQ ((divQ cur q).getD ((divQ cur q).length - 1) (0, 0))) := nB_get _ _ (by omega)
              repeat first | refine And.intro rfl ?_ | refine Or.inl (And.intro rfl ?_) | refine Or.inr (And.intro rfl ?_) | refine And.intro (fun (_ : true = true) => ?_) (fun (h : true = false) => Bool.noConfusion h) | refine And.intro (fun (h : false = true) => Bool.noConfusion h) (fun (_ : false = false) => ?_)
              refine And.intro (show ShP 4000 (nB cur) ∧ (nB cur).length ≤ 1000 ∧ l.length ≤ 4000 ∧ t.length ≤ 4000 from ⟨sh_nB hI.sp (sC_le (by omega)), by rw [nB_len]; omega, by omega, by omega⟩) ?_
              rw [vcur, ← hq]
              repeat first | refine And.intro rfl ?_ | refine Or.inl (And.intro rfl ?_) | refine Or.inr (And.intro rfl ?_) | refine And.intro (fun (_ : true = true) => ?_) (fun (h : true = false) => Bool.noConfusion h) | refine And.intro (fun (h : false = true) => Bool.noConfusion h) (fun (_ : false = false) => ?_)
              refine And.intro (show 0 ≤ (0 : Int) ∧ (0 : Int) < (((nB (divQ cur q)).length : Nat) : Int) by rw [nB_len]; omega) ?_
              rw [show (0 : Int).toNat = 0 from rfl, g0]
              repeat first | refine And.intro rfl ?_ | refine And.intro True.intro ?_ | refine Or.inl (And.intro rfl ?_) | refine Or.inr (And.intro rfl ?_) | refine And.intro (fun (_ : true = true) => ?_) (fun (h : true = false) => Bool.noConfusion h) | refine And.intro (fun (h : false = true) => Bool.noConfusion h) (fun (_ : false = false) => ?_)
              refine And.intro (show (nB L).length + 1 ≤ 1000000 by rw [nB_len, hI.L, List.length_take]; omega) ?_
              repeat first | refine And.intro rfl ?_ | refine And.intro True.intro ?_ | refine Or.inl (And.intro rfl ?_) | refine Or.inr (And.intro rfl ?_) | refine And.intro (fun (_ : true = true) => ?_) (fun (h : true = false) => Bool.noConfusion h) | refine And.intro (fun (h : false = true) => Bool.noConfusion h) (fun (_ : false = false) => ?_)
              refine And.intro (show 0 ≤ IntKind.i64.wrap _ ∧ IntKind.i64.wrap _ < (((nB (divQ cur q)).length : Nat) : Int) by rw [gw, nB_len]; omega) ?_
              rw [gw, Int.toNat_natCast, g1]
              repeat first | refine And.intro rfl ?_ | refine And.intro True.intro ?_ | refine Or.inl (And.intro rfl ?_) | refine Or.inr (And.intro rfl ?_) | refine And.intro (fun (_ : true = true) => ?_) (fun (h : true = false) => Bool.noConfusion h) | refine And.intro (fun (h : false = true) => Bool.noConfusion h) (fun (_ : false = false) => ?_)
              refine And.intro (show 1 + (nB R).length ≤ 1000000 by rw [nB_len, hI.R, List.length_drop, rightQ_len q (by omega)]; omega) ?_
              repeat first | refine And.intro rfl ?_ | refine And.intro True.intro ?_ | refine Or.inl (And.intro rfl ?_) | refine Or.inr (And.intro rfl ?_) | refine And.intro (fun (_ : true = true) => ?_) (fun (h : true = false) => Bool.noConfusion h) | refine And.intro (fun (h : false = true) => Bool.noConfusion h) (fun (_ : false = false) => ?_)
              refine Exists.intro ⟨(3, _, _, _), by omega, hI2⟩ (And.intro (show (divQ cur q).length < cur.length by omega) ?_)
              repeat first | exact trivial | refine And.intro rfl ?_ | refine And.intro trivial ?_ | refine And.intro (And.intro rfl trivial) ?_ | refine And.intro (And.intro rfl (And.intro rfl trivial)) ?_
              refine And.intro (And.intro rfl (And.intro (rwSl ?_) (And.intro rfl (And.intro rfl (And.intro rfl (And.intro rfl (And.intro rfl (And.intro rfl (And.intro rfl (And.intro rfl trivial)))))))))) ?_
              · exact (nB_app L _).symm
              · repeat first | exact trivial | refine And.intro rfl ?_ | refine And.intro trivial ?_ | refine And.intro (And.intro rfl trivial) ?_ | refine And.intro (And.intro rfl (And.intro rfl trivial)) ?_
            · have h1 : ¬ 1 < cur.length := by
                have : ¬ (((nB cur).length : Nat) : Int) > 1 := of_decide_eq_false hc
                rw [nB_len] at this
                omega
              obtain ⟨eL, eR⟩ := hI.fin h1
              repeat first | refine And.intro rfl ?_ | refine And.intro True.intro ?_ | refine Or.inl (And.intro rfl ?_) | refine Or.inr (And.intro rfl ?_) | refine And.intro (fun (_ : true = true) => ?_) (fun (h : true = false) => Bool.noConfusion h) | refine And.intro (fun (h : false = true) => Bool.noConfusion h) (fun (_ : false = false) => ?_)
              exact resSpl (show nB L = nB (leftQ vs q) by rw [eL]) (show nB R = nB (rightQ vs q) by rw [eR])
          | 3, _ =>
            have vcur := vals_nB cur
            have hlc := hI.len
            have hlp := hI.pos
            repeat first | refine And.intro rfl ?_ | refine Or.inl (And.intro rfl ?_) | refine Or.inr (And.intro rfl ?_) | refine And.intro (fun (_ : true = true) => ?_) (fun (h : true = false) => Bool.noConfusion h) | refine And.intro (fun (h : false = true) => Bool.noConfusion h) (fun (_ : false = false) => ?_)
            refine And.intro (fun hc => ?_) (fun hc => ?_)
            · exfalso
              have : (((nB cur).length : Nat) : Int) > 1 := of_decide_eq_true hc
              rw [nB_len] at this
              omega
            · obtain ⟨eL, eR⟩ := hI.fin (by omega)
              repeat first | refine And.intro rfl ?_ | refine And.intro True.intro ?_ | refine Or.inl (And.intro rfl ?_) | refine Or.inr (And.intro rfl ?_) | refine And.intro (fun (_ : true = true) => ?_) (fun (h : true = false) => Bool.noConfusion h) | refine And.intro (fun (h : false = true) => Bool.noConfusion h) (fun (_ : false = false) => ?_)
              exact resSpl (show nB L = nB (leftQ vs q) by rw [eL]) (show nB R = nB (rightQ vs q) by rw [eR])
  · cases h

end Go.Gm
