/-
  The curves of the program, part D: Reverse, Flatten and Box. Plain theorems; no condition.
-/
import Derived.Test.YtihmifpdnipdmaaCurveC
set_option linter.all false
namespace Go.Gm
open Go.Proofs

theorem set_repG {α : Type} (out : List α) (z v : α) (k : Nat) (hk : 0 < k) : (List.replicate k z ++ out).set (k - 1) v = List.replicate (k - 1) z ++ (v :: out) := by
  obtain ⟨m, rfl⟩ : ∃ m, k = m + 1 := ⟨k - 1, by omega⟩
  rw [List.replicate_succ', List.append_assoc, List.set_append_right _ _ (by simp)]
  simp

def sReverse : List RV → Option (Prop × Res)
  | [.one (.sl 6 c)] => some (ShP 60000 c ∧ c.length ≤ 1000, .r (.one (.sl 6 (nB (valsOf c).reverse))))
  | _ => none

set_option maxHeartbeats 1000000 in
theorem ok_Reverse : Ok1 52 sReverse := by
  refine ok_of TC2_ok Try.func52 rfl (by kernel_rfl) ?_
  intro xs pre res h hp hlim
  unfold sReverse at h
  split at h
  · rename_i c
    cases h
    obtain ⟨hsh, hp1⟩ := hp
    obtain ⟨ps, rfl, hps, hpl⟩ := sh_le hsh
    rw [← hpl] at hp1
    rw [valsOf_B]
    obtain ⟨vs, hvs⟩ : ∃ vs, vs = ps.map PR.v := ⟨_, rfl⟩
    have hvl : vs.length = ps.length := by rw [hvs, List.length_map]
    rw [← hvs]
    refine And.intro (Nat.le_of_ble_eq_true rfl) ?_
    repeat first | refine And.intro rfl ?_ | refine Or.inl (And.intro rfl ?_) | refine Or.inr (And.intro rfl ?_) | refine And.intro (fun (_ : true = true) => ?_) (fun (h : true = false) => Bool.noConfusion h) | refine And.intro (fun (h : false = true) => Bool.noConfusion h) (fun (_ : false = false) => ?_)
    refine And.intro (show 0 ≤ ((ps.map ptB).length : Int) ∧ ((ps.map ptB).length : Int) ≤ ((ps.map ptB).length : Int) ∧ ((ps.map ptB).length : Int) ≤ 1000000 by rw [List.length_map]; omega) ?_
    repeat first | refine And.intro rfl ?_ | refine Or.inl (And.intro rfl ?_) | refine Or.inr (And.intro rfl ?_) | refine And.intro (fun (_ : true = true) => ?_) (fun (h : true = false) => Bool.noConfusion h) | refine And.intro (fun (h : false = true) => Bool.noConfusion h) (fun (_ : false = false) => ?_)
    refine Exists.intro {k : Nat // k ≤ ps.length} (Exists.intro (fun k => ⟨[(0, .one (.sl 6 (ps.map ptB))), (3, .own 0), (9, .one (.sl 6 (ps.map ptB))), (10, .val (.int .i64 ((ps.map ptB).length : Nat))), (11, .val (.int .i64 (k.1 : Nat)))], ⟨[], [.s 38 6 (List.replicate (ps.length - k.1) (ptB PR.zero) ++ nB (vs.take k.1).reverse)]⟩⟩) (Exists.intro (fun k => ps.length - k.1) (Exists.intro ⟨0, by omega⟩ (And.intro ?_ ?_))))
    · repeat first | exact trivial | refine And.intro rfl ?_ | refine And.intro trivial ?_ | refine And.intro (And.intro rfl trivial) ?_ | refine And.intro (And.intro rfl (And.intro rfl trivial)) ?_
      refine And.intro (And.intro (rwSl ?_) trivial) ?_
      · show List.replicate ((ps.map ptB).length : Int).toNat (ptB PR.zero) = List.replicate (ps.length - 0) (ptB PR.zero) ++ nB []
        rw [List.length_map, Int.toNat_natCast]
        simp [nB]
      · repeat first | exact trivial | refine And.intro rfl ?_ | refine And.intro trivial ?_ | refine And.intro (And.intro rfl trivial) ?_ | refine And.intro (And.intro rfl (And.intro rfl trivial)) ?_
    · rintro ⟨k, hk⟩
      have hrow : (List.replicate (ps.length - k) (ptB PR.zero) ++ nB (vs.take k).reverse).length = ps.length := by
        rw [List.length_append, nB_len, List.length_replicate, List.length_reverse, List.length_take]
        omega
      repeat first | refine And.intro rfl ?_ | refine Or.inl (And.intro rfl ?_) | refine Or.inr (And.intro rfl ?_) | refine And.intro (fun (_ : true = true) => ?_) (fun (h : true = false) => Bool.noConfusion h) | refine And.intro (fun (h : false = true) => Bool.noConfusion h) (fun (_ : false = false) => ?_)
      refine And.intro (fun hc => ?_) (fun hc => ?_)
      · have hk' : (k : Int) < (((ps.map ptB).length : Nat) : Int) := of_decide_eq_true hc
        rw [List.length_map] at hk'
        have g1 : (ps.map ptB).getD (k : Int).toNat [] = ptB (ps.getD k PR.zero) := getD_ptB ps k (by omega)
        have hw : IntKind.i64.wrap (IntKind.i64.wrap (((ps.map ptB).length : Int) - 1) - (k : Int)) = ((ps.length - k - 1 : Nat) : Int) := by rw [List.length_map, wI (x := ((ps.length : Nat) : Int) - 1) (by omega) (by omega), wI (by omega) (by omega)]; omega
        have k1 := (hps _ (getD_mem' ps k PR.zero (by omega))).mono (show 60000 ≤ 70000 by decide)
        repeat first | refine And.intro rfl ?_ | refine Or.inl (And.intro rfl ?_) | refine Or.inr (And.intro rfl ?_) | refine And.intro (fun (_ : true = true) => ?_) (fun (h : true = false) => Bool.noConfusion h) | refine And.intro (fun (h : false = true) => Bool.noConfusion h) (fun (_ : false = false) => ?_)
        refine And.intro (show 0 ≤ (k : Int) ∧ (k : Int) < (((ps.map ptB).length : Nat) : Int) by rw [List.length_map]; omega) ?_
        rw [g1]
        repeat first | refine And.intro rfl ?_ | refine Or.inl (And.intro rfl ?_) | refine Or.inr (And.intro rfl ?_) | refine And.intro (fun (_ : true = true) => ?_) (fun (h : true = false) => Bool.noConfusion h) | refine And.intro (fun (h : false = true) => Bool.noConfusion h) (fun (_ : false = false) => ?_)
        refine And.intro k1 ?_
        repeat first | refine And.intro rfl ?_ | refine Or.inl (And.intro rfl ?_) | refine Or.inr (And.intro rfl ?_) | refine And.intro (fun (_ : true = true) => ?_) (fun (h : true = false) => Bool.noConfusion h) | refine And.intro (fun (h : false = true) => Bool.noConfusion h) (fun (_ : false = false) => ?_)
        refine And.intro (show 0 ≤ IntKind.i64.wrap _ ∧ IntKind.i64.wrap _ < (((List.replicate (ps.length - k) (ptB PR.zero) ++ nB (vs.take k).reverse).length : Nat) : Int) by rw [hw, hrow]; omega) ?_
        repeat first | refine And.intro rfl ?_ | refine Or.inl (And.intro rfl ?_) | refine Or.inr (And.intro rfl ?_) | refine And.intro (fun (_ : true = true) => ?_) (fun (h : true = false) => Bool.noConfusion h) | refine And.intro (fun (h : false = true) => Bool.noConfusion h) (fun (_ : false = false) => ?_)
        refine And.intro (show (IntKind.i64.wrap _).toNat < (List.replicate (ps.length - k) (ptB PR.zero) ++ nB (vs.take k).reverse).length by rw [hw, hrow]; omega) ?_
        repeat first | refine And.intro rfl ?_ | refine Or.inl (And.intro rfl ?_) | refine Or.inr (And.intro rfl ?_) | refine And.intro (fun (_ : true = true) => ?_) (fun (h : true = false) => Bool.noConfusion h) | refine And.intro (fun (h : false = true) => Bool.noConfusion h) (fun (_ : false = false) => ?_)
        refine Exists.intro ⟨k + 1, by omega⟩ (And.intro (show ps.length - (k + 1) < ps.length - k by omega) ?_)
        repeat first | exact trivial | refine And.intro rfl ?_ | refine And.intro trivial ?_ | refine And.intro (And.intro rfl trivial) ?_ | refine And.intro (And.intro rfl (And.intro rfl trivial)) ?_
        refine And.intro (And.intro (rwSl ?_) trivial) ?_
        · show (List.replicate (ps.length - k) (ptB PR.zero) ++ nB (vs.take k).reverse).set (IntKind.i64.wrap _).toNat (ptB (prQ (ps.getD k PR.zero).v)) = List.replicate (ps.length - (k + 1)) (ptB PR.zero) ++ nB (vs.take (k + 1)).reverse
          rw [hw, Int.toNat_natCast, set_repG _ _ _ _ (by omega), take_snoc vs (0, 0) k (by omega), List.reverse_append, hvs, getD_v ps k (by omega)]
          rfl
        · repeat first | exact trivial | refine And.intro rfl ?_ | refine And.intro trivial ?_ | refine And.intro (And.intro rfl trivial) ?_ | refine And.intro (And.intro rfl (And.intro rfl trivial)) ?_
          exact And.intro (avI (show IntKind.i64.wrap ((k : Int) + 1) = ((k + 1 : Nat) : Int) by rw [wI (by omega) (by omega)]; omega)) trivial
      · have hk' : ¬ (k : Int) < (((ps.map ptB).length : Nat) : Int) := of_decide_eq_false hc
        rw [List.length_map] at hk'
        repeat first | refine And.intro rfl ?_ | refine Or.inl (And.intro rfl ?_) | refine Or.inr (And.intro rfl ?_) | refine And.intro (fun (_ : true = true) => ?_) (fun (h : true = false) => Bool.noConfusion h) | refine And.intro (fun (h : false = true) => Bool.noConfusion h) (fun (_ : false = false) => ?_)
        refine resSl ?_
        show List.replicate (ps.length - k) (ptB PR.zero) ++ nB (vs.take k).reverse = nB vs.reverse
        rw [show ps.length - k = 0 by omega, List.take_of_length_le (by omega)]
        rfl
  · cases h

/-- The points of a curve at even steps. -/
def fltQ (l : List (Rat × Rat)) (n : Nat) : List (Rat × Rat) := (List.range (n + 1)).map fun (i : Nat) => bez l (mkRat (i : Int) n)
theorem fltQ_len (l : List (Rat × Rat)) (n : Nat) : (fltQ l n).length = n + 1 := by simp [fltQ]
theorem fltQ_at (l : List (Rat × Rat)) (n i : Nat) (h : i < n + 1) : (fltQ l n).getD i (0, 0) = bez l (mkRat (i : Int) n) := by
  simp [fltQ, List.getD_eq_getElem?_getD, h]

/-- Whether a number of segments is allowed. -/
abbrev okN (n : Int) : Bool := decide (1 ≤ n ∧ n ≤ 39)

def sFlatten : List RV → Option (Prop × Res)
  | [.one (.sl 6 c), .one (.b (.val (.int .i64 n)))] => some (ShP 300 c ∧ InR n, .t [.one (.sl 6 (cond (okC c) (cond (okN n) (nB (fltQ (valsOf c) n.toNat)) []) [])), .val (.int .i64 (cond (okC c) (cond (okN n) 0 3) 1))])
  | _ => none

def TC3 : Table := [(53, sAt), (51, sRatOf)] ++ TC2
theorem TC3_ok : TabOk TC3 := TabOk.append (TabOk.cons ok_At (TabOk.cons ok_ratOf TabOk.nil)) TC2_ok

theorem mk_frac (i n : Nat) (hn : 0 < n) : mkRat (sg (!(decide ((i : Int) < 0) == decide ((n : Int) < 0))) (i : Int).natAbs) (n : Int).natAbs = mkRat (i : Int) n := by
  have e1 : decide ((i : Int) < 0) = false := decide_eq_false (by omega)
  have e2 : decide ((n : Int) < 0) = false := decide_eq_false (by omega)
  rw [e1, e2, Int.natAbs_natCast, Int.natAbs_natCast]
  rfl
theorem frac_sz {i n : Nat} (hi : i < 4294967296) (hn : n < 4294967296) : Sz 1 (mkRat (i : Int) n) := by
  refine Sz.mk ?_ ?_ (by decide)
  · rw [Int.natAbs_natCast, Nat.pow_one, B_eq]; exact hi
  · rw [Nat.pow_one, B_eq]; exact hn

theorem resFl {l l' : List (List BV)} {x y : Int} (h : l = l') (h' : x = y) : Res.t [.one (.sl 6 l), .val (.int .i64 x)] = Res.t [.one (.sl 6 l'), .val (.int .i64 y)] := by rw [h, h']

set_option maxHeartbeats 1000000 in
theorem ok_Flatten : Ok1 98 sFlatten := by
  refine ok_of TC3_ok Try.func98 rfl (by kernel_rfl) ?_
  intro xs pre res h hp hlim
  unfold sFlatten at h
  split at h
  · rename_i c n
    cases h
    obtain ⟨hsh, hn⟩ := hp
    cases hv : okC c with
    | false =>
      refine And.intro (Nat.le_of_ble_eq_true rfl) ?_
      repeat first | refine And.intro rfl ?_ | refine Or.inl (And.intro rfl ?_) | refine Or.inr (And.intro rfl ?_) | refine And.intro (fun (_ : true = true) => ?_) (fun (h : true = false) => Bool.noConfusion h) | refine And.intro (fun (h : false = true) => Bool.noConfusion h) (fun (_ : false = false) => ?_)
      repeat first | refine And.intro rfl ?_ | refine And.intro True.intro ?_ | refine Or.inl (And.intro rfl ?_) | refine Or.inr (And.intro rfl ?_) | refine And.intro (fun (_ : true = true) => ?_) (fun (h : true = false) => Bool.noConfusion h) | refine And.intro (fun (h : false = true) => Bool.noConfusion h) (fun (_ : false = false) => ?_)
      refine And.intro (fun hc => ?_) (fun hc => ?_)
      · repeat first | refine And.intro rfl ?_ | refine And.intro True.intro ?_ | refine Or.inl (And.intro rfl ?_) | refine Or.inr (And.intro rfl ?_) | refine And.intro (fun (_ : true = true) => ?_) (fun (h : true = false) => Bool.noConfusion h) | refine And.intro (fun (h : false = true) => Bool.noConfusion h) (fun (_ : false = false) => ?_)
        rfl
      · rw [show decide (2 ≤ c.length ∧ c.length ≤ 4) = false from hv] at hc
        cases hc
    | true =>
      refine And.intro (Nat.le_of_ble_eq_true rfl) ?_
      repeat first | refine And.intro rfl ?_ | refine Or.inl (And.intro rfl ?_) | refine Or.inr (And.intro rfl ?_) | refine And.intro (fun (_ : true = true) => ?_) (fun (h : true = false) => Bool.noConfusion h) | refine And.intro (fun (h : false = true) => Bool.noConfusion h) (fun (_ : false = false) => ?_)
      repeat first | refine And.intro rfl ?_ | refine And.intro True.intro ?_ | refine Or.inl (And.intro rfl ?_) | refine Or.inr (And.intro rfl ?_) | refine And.intro (fun (_ : true = true) => ?_) (fun (h : true = false) => Bool.noConfusion h) | refine And.intro (fun (h : false = true) => Bool.noConfusion h) (fun (_ : false = false) => ?_)
      refine And.intro (fun hc => ?_) (fun hc => ?_)
      · rw [show decide (2 ≤ c.length ∧ c.length ≤ 4) = true from hv] at hc
        cases hc
      · by_cases h1 : n < 1
        · repeat first | refine And.intro rfl ?_ | refine And.intro True.intro ?_ | refine Or.inl (And.intro rfl ?_) | refine Or.inr (And.intro rfl ?_) | refine And.intro (fun (_ : true = true) => ?_) (fun (h : true = false) => Bool.noConfusion h) | refine And.intro (fun (h : false = true) => Bool.noConfusion h) (fun (_ : false = false) => ?_)
          refine Or.inr (And.intro (decide_eq_true h1) ?_)
          repeat first | refine And.intro rfl ?_ | refine And.intro True.intro ?_ | refine Or.inl (And.intro rfl ?_) | refine Or.inr (And.intro rfl ?_) | refine And.intro (fun (_ : true = true) => ?_) (fun (h : true = false) => Bool.noConfusion h) | refine And.intro (fun (h : false = true) => Bool.noConfusion h) (fun (_ : false = false) => ?_)
          exact resFl (by rw [show okN n = false from decide_eq_false (by omega)]; rfl) (by rw [show okN n = false from decide_eq_false (by omega)]; rfl)
        · repeat first | refine And.intro rfl ?_ | refine And.intro True.intro ?_ | refine Or.inl (And.intro rfl ?_) | refine Or.inr (And.intro rfl ?_) | refine And.intro (fun (_ : true = true) => ?_) (fun (h : true = false) => Bool.noConfusion h) | refine And.intro (fun (h : false = true) => Bool.noConfusion h) (fun (_ : false = false) => ?_)
          refine Or.inl (And.intro (decide_eq_false h1) ?_)
          repeat first | refine And.intro rfl ?_ | refine And.intro True.intro ?_ | refine Or.inl (And.intro rfl ?_) | refine Or.inr (And.intro rfl ?_) | refine And.intro (fun (_ : true = true) => ?_) (fun (h : true = false) => Bool.noConfusion h) | refine And.intro (fun (h : false = true) => Bool.noConfusion h) (fun (_ : false = false) => ?_)
          refine And.intro (fun hc2 => ?_) (fun hc2 => ?_)
          · have hc2 : n > 39 := of_decide_eq_true hc2
            repeat first | refine And.intro rfl ?_ | refine And.intro True.intro ?_ | refine Or.inl (And.intro rfl ?_) | refine Or.inr (And.intro rfl ?_) | refine And.intro (fun (_ : true = true) => ?_) (fun (h : true = false) => Bool.noConfusion h) | refine And.intro (fun (h : false = true) => Bool.noConfusion h) (fun (_ : false = false) => ?_)
            exact resFl (by rw [show okN n = false from decide_eq_false (by omega)]; rfl) (by rw [show okN n = false from decide_eq_false (by omega)]; rfl)
          · have hc2 : ¬ n > 39 := of_decide_eq_false hc2
            obtain ⟨m, rfl⟩ : ∃ m : Nat, n = (m : Int) := ⟨n.toNat, by omega⟩
            rw [show okN (m : Int) = true from decide_eq_true (by omega), Int.toNat_natCast]
            have hw : IntKind.i64.wrap ((m : Int) + 1) = ((m + 1 : Nat) : Int) := by rw [wI (by omega) (by omega)]; omega
            obtain ⟨F, hF⟩ : ∃ F, F = fltQ (valsOf c) m := ⟨_, rfl⟩
            have hFl : F.length = m + 1 := by rw [hF, fltQ_len]
            rw [← hF]
            repeat first | refine And.intro rfl ?_ | refine And.intro True.intro ?_ | refine Or.inl (And.intro rfl ?_) | refine Or.inr (And.intro rfl ?_) | refine And.intro (fun (_ : true = true) => ?_) (fun (h : true = false) => Bool.noConfusion h) | refine And.intro (fun (h : false = true) => Bool.noConfusion h) (fun (_ : false = false) => ?_)
            refine And.intro (show 0 ≤ IntKind.i64.wrap ((m : Int) + 1) ∧ IntKind.i64.wrap ((m : Int) + 1) ≤ IntKind.i64.wrap ((m : Int) + 1) ∧ IntKind.i64.wrap ((m : Int) + 1) ≤ 1000000 by rw [hw]; omega) ?_
            repeat first | refine And.intro rfl ?_ | refine Or.inl (And.intro rfl ?_) | refine Or.inr (And.intro rfl ?_) | refine And.intro (fun (_ : true = true) => ?_) (fun (h : true = false) => Bool.noConfusion h) | refine And.intro (fun (h : false = true) => Bool.noConfusion h) (fun (_ : false = false) => ?_)
            refine Exists.intro {k : Nat // k ≤ m + 1} (Exists.intro (fun k => ⟨[(0, .one (.sl 6 c)), (1, .val (.int .i64 (m : Nat))), (6, .own 0), (23, .val (.int .i64 ((m + 1 : Nat) : Int))), (24, .val (.int .i64 (k.1 : Nat)))], ⟨[], [.s 38 6 (nB (F.take k.1) ++ List.replicate (m + 1 - k.1) (ptB PR.zero))]⟩⟩) (Exists.intro (fun k => m + 1 - k.1) (Exists.intro ⟨0, by omega⟩ (And.intro ?_ ?_))))
            · repeat first | exact trivial | refine And.intro rfl ?_ | refine And.intro trivial ?_ | refine And.intro (And.intro rfl trivial) ?_ | refine And.intro (And.intro rfl (And.intro rfl trivial)) ?_
              refine And.intro (And.intro (rwSl ?_) trivial) ?_
              · show List.replicate (IntKind.i64.wrap ((m : Int) + 1)).toNat (ptB PR.zero) = nB [] ++ List.replicate (m + 1 - 0) (ptB PR.zero)
                rw [hw, Int.toNat_natCast]
                rfl
              · repeat first | exact trivial | refine And.intro rfl ?_ | refine And.intro trivial ?_ | refine And.intro (And.intro rfl trivial) ?_ | refine And.intro (And.intro rfl (And.intro rfl trivial)) ?_
                refine And.intro (avI ?_) ?_
                · show (((List.replicate (IntKind.i64.wrap ((m : Int) + 1)).toNat (ptB PR.zero)).length : Nat) : Int) = _
                  rw [hw, Int.toNat_natCast, List.length_replicate]
                · repeat first | exact trivial | refine And.intro rfl ?_ | refine And.intro trivial ?_ | refine And.intro (And.intro rfl trivial) ?_ | refine And.intro (And.intro rfl (And.intro rfl trivial)) ?_
            · rintro ⟨k, hk⟩
              have hrow : (nB (F.take k) ++ List.replicate (m + 1 - k) (ptB PR.zero)).length = m + 1 := by
                rw [List.length_append, nB_len, List.length_take, List.length_replicate]
                omega
              repeat first | refine And.intro rfl ?_ | refine Or.inl (And.intro rfl ?_) | refine Or.inr (And.intro rfl ?_) | refine And.intro (fun (_ : true = true) => ?_) (fun (h : true = false) => Bool.noConfusion h) | refine And.intro (fun (h : false = true) => Bool.noConfusion h) (fun (_ : false = false) => ?_)
              refine And.intro (fun hc => ?_) (fun hc => ?_)
              · have hk' : (k : Int) < ((m + 1 : Nat) : Int) := of_decide_eq_true hc
                have hz := frac_sz (i := k) (n := m) (by omega) (by omega)
                repeat first | refine And.intro rfl ?_ | refine Or.inl (And.intro rfl ?_) | refine Or.inr (And.intro rfl ?_) | refine And.intro (fun (_ : true = true) => ?_) (fun (h : true = false) => Bool.noConfusion h) | refine And.intro (fun (h : false = true) => Bool.noConfusion h) (fun (_ : false = false) => ?_)
                refine And.intro (show -9223372036854775808 ≤ (k : Int) ∧ (k : Int) < 9223372036854775808 ∧ -9223372036854775808 ≤ (m : Int) ∧ (m : Int) < 9223372036854775808 ∧ (m : Int) ≠ 0 ∧ DivFit _ from ⟨by omega, by omega, by omega, by omega, by omega, trivial⟩) ?_
                rw [mk_frac k m (by omega)]
                repeat first | refine And.intro rfl ?_ | refine Or.inl (And.intro rfl ?_) | refine Or.inr (And.intro rfl ?_) | refine And.intro (fun (_ : true = true) => ?_) (fun (h : true = false) => Bool.noConfusion h) | refine And.intro (fun (h : false = true) => Bool.noConfusion h) (fun (_ : false = false) => ?_)
                refine And.intro (show ShP 300 c ∧ (dg (mkRat (k : Int) m).num.natAbs).length ≤ 300 ∧ (dg (mkRat (k : Int) m).den).length ≤ 300 from ⟨hsh, hz.lenN (by decide), hz.lenD (by decide)⟩) ?_
                rw [rq_cq, hv]
                repeat first | refine And.intro rfl ?_ | refine Or.inl (And.intro rfl ?_) | refine Or.inr (And.intro rfl ?_) | refine And.intro (fun (_ : true = true) => ?_) (fun (h : true = false) => Bool.noConfusion h) | refine And.intro (fun (h : false = true) => Bool.noConfusion h) (fun (_ : false = false) => ?_)
                refine And.intro (show 0 ≤ (k : Int) ∧ (k : Int) < (((nB (F.take k) ++ List.replicate (m + 1 - k) (ptB PR.zero)).length : Nat) : Int) by rw [hrow]; omega) ?_
                repeat first | refine And.intro rfl ?_ | refine Or.inl (And.intro rfl ?_) | refine Or.inr (And.intro rfl ?_) | refine And.intro (fun (_ : true = true) => ?_) (fun (h : true = false) => Bool.noConfusion h) | refine And.intro (fun (h : false = true) => Bool.noConfusion h) (fun (_ : false = false) => ?_)
                refine And.intro (show (k : Int).toNat < (nB (F.take k) ++ List.replicate (m + 1 - k) (ptB PR.zero)).length by rw [hrow]; omega) ?_
                repeat first | refine And.intro rfl ?_ | refine Or.inl (And.intro rfl ?_) | refine Or.inr (And.intro rfl ?_) | refine And.intro (fun (_ : true = true) => ?_) (fun (h : true = false) => Bool.noConfusion h) | refine And.intro (fun (h : false = true) => Bool.noConfusion h) (fun (_ : false = false) => ?_)
                refine Exists.intro ⟨k + 1, by omega⟩ (And.intro (show m + 1 - (k + 1) < m + 1 - k by omega) ?_)
                repeat first | exact trivial | refine And.intro rfl ?_ | refine And.intro trivial ?_ | refine And.intro (And.intro rfl trivial) ?_ | refine And.intro (And.intro rfl (And.intro rfl trivial)) ?_
                refine And.intro (And.intro (rwSl ?_) trivial) ?_
                · show (nB (F.take k) ++ List.replicate (m + 1 - k) (ptB PR.zero)).set (k : Int).toNat (ptB (prQ (bez (valsOf c) (mkRat (k : Int) m)))) = nB (F.take (k + 1)) ++ List.replicate (m + 1 - (k + 1)) (ptB PR.zero)
                  rw [Int.toNat_natCast, show m + 1 - k = (m + 1 - (k + 1)) + 1 by omega, set_midG _ _ _ _ (by rw [nB_len, List.length_take]; omega), nB_snoc F k (by omega), hF, fltQ_at _ _ _ (by omega)]
                · repeat first | exact trivial | refine And.intro rfl ?_ | refine And.intro trivial ?_ | refine And.intro (And.intro rfl trivial) ?_ | refine And.intro (And.intro rfl (And.intro rfl trivial)) ?_
                  exact And.intro (avI (show IntKind.i64.wrap ((k : Int) + 1) = ((k + 1 : Nat) : Int) by rw [wI (by omega) (by omega)]; omega)) trivial
              · have hk' : ¬ (k : Int) < ((m + 1 : Nat) : Int) := of_decide_eq_false hc
                repeat first | refine And.intro rfl ?_ | refine Or.inl (And.intro rfl ?_) | refine Or.inr (And.intro rfl ?_) | refine And.intro (fun (_ : true = true) => ?_) (fun (h : true = false) => Bool.noConfusion h) | refine And.intro (fun (h : false = true) => Bool.noConfusion h) (fun (_ : false = false) => ?_)
                refine resFl ?_ rfl
                show nB (F.take k) ++ List.replicate (m + 1 - k) (ptB PR.zero) = nB F
                rw [show m + 1 - k = 0 by omega, List.take_of_length_le (by omega)]
                simp
  · cases h

end Go.Gm
