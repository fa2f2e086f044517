/-
  RefM: several texts in one file. Plain theorems; no condition.
-/
import Derived.Test.YtihmifpdnipdmaaGreatRefP
import Derived.Test.YtihmifpdnipdmaaGreatNatX
import Derived.Test.YtihmifpdnipdmaaGreatNatL
import Derived.Test.YtihmifpdnipdmaaGreatNatH
import Derived.Test.YtihmifpdnipdmaaGreatInt
import Derived.Test.YtihmifpdnipdmaaGreatRatC
import Derived.Test.YtihmifpdnipdmaaGreatPt0
/-
  The reference's natural numbers, part A: limb, Of, Norm, Cmp. Plain theorems; no condition.
-/
set_option linter.all false
namespace Go.Gm
open Go.Proofs

def sLimb : List RV → Option (Prop × Res)
  | [.one (.b (.nat l)), .one (.b (.val (.int .i64 i)))] => some (0 ≤ i, .r (.val (.int .u64 (l.getD i.toNat 0 : Nat))))
  | _ => none

theorem ok_limb : Ok1 79 sLimb := by
  refine ok_of TabOk.nil Tryz.func79 rfl (by kernel_rfl) ?_
  intro xs pre res h hp hlim
  unfold sLimb at h
  split at h
  · rename_i l i
    cases h
    have hl : Lim l := hlim.1
    refine And.intro (Nat.le_of_ble_eq_true rfl) ?_
    repeat first | refine And.intro rfl ?_ | refine Or.inl (And.intro rfl ?_) | refine Or.inr (And.intro rfl ?_) | refine And.intro (fun (_ : true = true) => ?_) (fun (h : true = false) => Bool.noConfusion h) | refine And.intro (fun (h : false = true) => Bool.noConfusion h) (fun (_ : false = false) => ?_)
    refine Or.inl (And.intro (decide_eq_false (show ¬ i < 0 by omega)) ?_)
    repeat first | refine And.intro rfl ?_ | refine Or.inl (And.intro rfl ?_) | refine Or.inr (And.intro rfl ?_) | refine And.intro (fun (_ : true = true) => ?_) (fun (h : true = false) => Bool.noConfusion h) | refine And.intro (fun (h : false = true) => Bool.noConfusion h) (fun (_ : false = false) => ?_)
    refine And.intro (fun hc => ?_) (fun hc => ?_)
    · have hc : i ≥ (l.length : Int) := of_decide_eq_true hc
      repeat first | refine And.intro rfl ?_ | refine Or.inl (And.intro rfl ?_) | refine Or.inr (And.intro rfl ?_) | refine And.intro (fun (_ : true = true) => ?_) (fun (h : true = false) => Bool.noConfusion h) | refine And.intro (fun (h : false = true) => Bool.noConfusion h) (fun (_ : false = false) => ?_)
      exact resI (by rw [getD_end _ _ (by omega)]; rfl)
    · have hc : ¬ i ≥ (l.length : Int) := of_decide_eq_false hc
      repeat first | refine And.intro rfl ?_ | refine Or.inl (And.intro rfl ?_) | refine Or.inr (And.intro rfl ?_) | refine And.intro (fun (_ : true = true) => ?_) (fun (h : true = false) => Bool.noConfusion h) | refine And.intro (fun (h : false = true) => Bool.noConfusion h) (fun (_ : false = false) => ?_)
      refine And.intro (show 0 ≤ i ∧ i < (l.length : Int) by omega) ?_
      repeat first | refine And.intro rfl ?_ | refine Or.inl (And.intro rfl ?_) | refine Or.inr (And.intro rfl ?_) | refine And.intro (fun (_ : true = true) => ?_) (fun (h : true = false) => Bool.noConfusion h) | refine And.intro (fun (h : false = true) => Bool.noConfusion h) (fun (_ : false = false) => ?_)
      refine resI ?_
      have h1 : l.getD i.toNat 0 < 4294967296 := hl.getD i.toNat
      exact wU (by omega) (by omega)
  · cases h

def pLimb (l : List Nat) (i : Int) : Option (Prop × Value) := some (0 ≤ i, .int .u64 (l.getD i.toNat 0 : Nat))
theorem okK_limb : OkK 79 pLimb := okK_of ok_limb (fun l i pre v h => by
  unfold pLimb at h
  injection h with h
  injection h with h1 h2
  subst h1
  subst h2
  rfl)

theorem ok_rOf : Ok1 87 sOf := by
  refine ok_of TabOk.nil Tryz.func87 rfl (by kernel_rfl) ?_
  intro xs pre res h hp hlim
  unfold sOf at h
  split at h
  · rename_i nn
    cases h
    obtain ⟨n, rfl⟩ : ∃ n : Nat, nn = (n : Int) := ⟨nn.toNat, by omega⟩
    rw [Int.toNat_natCast]
    have hn : n < 18446744073709551616 := by omega
    have h2 : (dg n).length ≤ 2 := dg_len_of_lt n 2 (by rw [B_eq]; omega)
    refine And.intro (Nat.le_of_ble_eq_true rfl) ?_
    repeat first | refine And.intro rfl ?_ | refine Or.inl (And.intro rfl ?_) | refine Or.inr (And.intro rfl ?_) | refine And.intro (fun (_ : true = true) => ?_) (fun (h : true = false) => Bool.noConfusion h) | refine And.intro (fun (h : false = true) => Bool.noConfusion h) (fun (_ : false = false) => ?_)
    refine Exists.intro {s : Nat × List Nat // s.1 ≤ n ∧ Lim s.2 ∧ s.2 ++ dg s.1 = dg n} (Exists.intro (fun s => ⟨[(0, .val (.int .u64 (s.1.1 : Nat))), (3, .own 0)], ⟨[], [.n 74 s.1.2]⟩⟩) (Exists.intro (fun s => s.1.1) (Exists.intro ⟨(n, []), Nat.le_refl _, Lim.nil, rfl⟩ (And.intro ?_ ?_))))
    · repeat first | exact trivial | refine And.intro rfl ?_ | refine And.intro trivial ?_ | refine And.intro (And.intro rfl trivial) ?_ | refine And.intro (And.intro rfl (And.intro rfl trivial)) ?_
    · rintro ⟨⟨m, out⟩, hm, hlo, hinv⟩
      simp only at hm hlo hinv
      have hol : out.length ≤ 2 := by have := congrArg List.length hinv; simp at this; omega
      repeat first | refine And.intro rfl ?_ | refine Or.inl (And.intro rfl ?_) | refine Or.inr (And.intro rfl ?_) | refine And.intro (fun (_ : true = true) => ?_) (fun (h : true = false) => Bool.noConfusion h) | refine And.intro (fun (h : false = true) => Bool.noConfusion h) (fun (_ : false = false) => ?_)
      refine And.intro (fun hc => ?_) (fun hc => ?_)
      · have hpos : 0 < m := by have : (m : Int) > 0 := of_decide_eq_true hc; omega
        have e1 : Int.tmod ((m : Nat) : Int) 4294967296 = ((m % 4294967296 : Nat) : Int) := by
          have := Int.ofNat_tmod m 4294967296
          exact this.symm
        have e2 : IntKind.u32.wrap ((m % 4294967296 : Nat) : Int) = ((m % 4294967296 : Nat) : Int) := by rw [wU32]; omega
        have e3 : IntKind.u64.wrap (Int.tdiv ((m : Nat) : Int) 4294967296) = ((m / 4294967296 : Nat) : Int) := by
          rw [show Int.tdiv ((m : Nat) : Int) 4294967296 = ((m / 4294967296 : Nat) : Int) from (Int.ofNat_tdiv m 4294967296).symm]
          exact wU (by omega) (by omega)
        repeat first | refine And.intro rfl ?_ | refine Or.inl (And.intro rfl ?_) | refine Or.inr (And.intro rfl ?_) | refine And.intro (fun (_ : true = true) => ?_) (fun (h : true = false) => Bool.noConfusion h) | refine And.intro (fun (h : false = true) => Bool.noConfusion h) (fun (_ : false = false) => ?_)
        refine And.intro (show (4294967296 : Int) ≠ 0 by decide) ?_
        repeat first | refine And.intro rfl ?_ | refine Or.inl (And.intro rfl ?_) | refine Or.inr (And.intro rfl ?_) | refine And.intro (fun (_ : true = true) => ?_) (fun (h : true = false) => Bool.noConfusion h) | refine And.intro (fun (h : false = true) => Bool.noConfusion h) (fun (_ : false = false) => ?_)
        refine And.intro (show (0 ≤ IntKind.u32.wrap (Int.tmod ((m : Nat) : Int) 4294967296) ∧ IntKind.u32.wrap (Int.tmod ((m : Nat) : Int) 4294967296) < 4294967296) ∧ True from ⟨by rw [e1, e2]; omega, trivial⟩) ?_
        repeat first | refine And.intro rfl ?_ | refine Or.inl (And.intro rfl ?_) | refine Or.inr (And.intro rfl ?_) | refine And.intro (fun (_ : true = true) => ?_) (fun (h : true = false) => Bool.noConfusion h) | refine And.intro (fun (h : false = true) => Bool.noConfusion h) (fun (_ : false = false) => ?_)
        refine And.intro (show out.length + 1 ≤ 1000000 by omega) ?_
        repeat first | refine And.intro rfl ?_ | refine Or.inl (And.intro rfl ?_) | refine Or.inr (And.intro rfl ?_) | refine And.intro (fun (_ : true = true) => ?_) (fun (h : true = false) => Bool.noConfusion h) | refine And.intro (fun (h : false = true) => Bool.noConfusion h) (fun (_ : false = false) => ?_)
        refine And.intro (show (4294967296 : Int) ≠ 0 by decide) ?_
        repeat first | refine And.intro rfl ?_ | refine Or.inl (And.intro rfl ?_) | refine Or.inr (And.intro rfl ?_) | refine And.intro (fun (_ : true = true) => ?_) (fun (h : true = false) => Bool.noConfusion h) | refine And.intro (fun (h : false = true) => Bool.noConfusion h) (fun (_ : false = false) => ?_)
        refine Exists.intro ⟨(m / 4294967296, out ++ [m % 4294967296]), (show m / 4294967296 ≤ n by omega), hlo.append (Lim.cons (show m % 4294967296 < 4294967296 by omega) Lim.nil), (show (out ++ [m % 4294967296]) ++ dg (m / 4294967296) = dg n by rw [← hinv, dg_pos m hpos, List.append_assoc]; rfl)⟩ (And.intro (show m / 4294967296 < m by omega) ?_)
        repeat first | exact trivial | refine And.intro rfl ?_ | refine And.intro trivial ?_ | refine And.intro (And.intro rfl trivial) ?_ | refine And.intro (And.intro rfl (And.intro rfl trivial)) ?_
        refine And.intro (And.intro (rwN ?_) trivial) ?_
        · show out ++ [(IntKind.u32.wrap (Int.tmod ((m : Nat) : Int) 4294967296)).toNat] = out ++ [m % 4294967296]
          rw [e1, e2, Int.toNat_natCast]
        · repeat first | exact trivial | refine And.intro rfl ?_ | refine And.intro trivial ?_ | refine And.intro (And.intro rfl trivial) ?_ | refine And.intro (And.intro rfl (And.intro rfl trivial)) ?_
          refine And.intro (avI e3) ?_
          repeat first | exact trivial | refine And.intro rfl ?_ | refine And.intro trivial ?_ | refine And.intro (And.intro rfl trivial) ?_ | refine And.intro (And.intro rfl (And.intro rfl trivial)) ?_
      · have hz : m = 0 := by have : ¬ (m : Int) > 0 := of_decide_eq_false hc; omega
        subst hz
        repeat first | refine And.intro rfl ?_ | refine Or.inl (And.intro rfl ?_) | refine Or.inr (And.intro rfl ?_) | refine And.intro (fun (_ : true = true) => ?_) (fun (h : true = false) => Bool.noConfusion h) | refine And.intro (fun (h : false = true) => Bool.noConfusion h) (fun (_ : false = false) => ?_)
        refine resN ?_
        show out = dg n
        rw [← hinv, dg_zero, List.append_nil]
  · cases h

theorem ok_rNorm : Ok1 74 sNorm := by
  refine ok_of TabOk.nil Tryz.func74 rfl (by kernel_rfl) ?_
  intro xs pre res h hp hlim
  unfold sNorm at h
  split at h
  · rename_i l
    cases h
    have hl : Lim l := hlim.1
    refine And.intro (Nat.le_of_ble_eq_true rfl) ?_
    repeat first | refine And.intro rfl ?_ | refine Or.inl (And.intro rfl ?_) | refine Or.inr (And.intro rfl ?_) | refine And.intro (fun (_ : true = true) => ?_) (fun (h : true = false) => Bool.noConfusion h) | refine And.intro (fun (h : false = true) => Bool.noConfusion h) (fun (_ : false = false) => ?_)
    refine Exists.intro {k : Nat // k ≤ l.length ∧ nv (l.drop k) = 0} (Exists.intro (fun k => ⟨[(0, .one (.nat l)), (3, .val (.int .i64 (k.1 : Nat)))], ⟨[], []⟩⟩) (Exists.intro (fun k => k.1) (Exists.intro ⟨l.length, Nat.le_refl _, by simp [nv]⟩ (And.intro ?_ ?_))))
    · repeat first | exact trivial | refine And.intro rfl ?_ | refine And.intro trivial ?_ | refine And.intro (And.intro rfl trivial) ?_ | refine And.intro (And.intro rfl (And.intro rfl trivial)) ?_
    · rintro ⟨k, hk1, hk2⟩
      by_cases hk : 0 < k
      · have hw : IntKind.i64.wrap ((k : Int) - 1) = ((k - 1 : Nat) : Int) := by rw [wI (by omega) (by omega)]; omega
        repeat first | refine And.intro rfl ?_ | refine Or.inl (And.intro rfl ?_) | refine Or.inr (And.intro rfl ?_) | refine And.intro (fun (_ : true = true) => ?_) (fun (h : true = false) => Bool.noConfusion h) | refine And.intro (fun (h : false = true) => Bool.noConfusion h) (fun (_ : false = false) => ?_)
        refine Or.inl (And.intro (by simp; omega) ?_)
        repeat first | refine And.intro rfl ?_ | refine Or.inl (And.intro rfl ?_) | refine Or.inr (And.intro rfl ?_) | refine And.intro (fun (_ : true = true) => ?_) (fun (h : true = false) => Bool.noConfusion h) | refine And.intro (fun (h : false = true) => Bool.noConfusion h) (fun (_ : false = false) => ?_)
        refine And.intro (show 0 ≤ IntKind.i64.wrap ((k : Int) - 1) ∧ IntKind.i64.wrap ((k : Int) - 1) < l.length by rw [hw]; omega) ?_
        repeat first | refine And.intro rfl ?_ | refine Or.inl (And.intro rfl ?_) | refine Or.inr (And.intro rfl ?_) | refine And.intro (fun (_ : true = true) => ?_) (fun (h : true = false) => Bool.noConfusion h) | refine And.intro (fun (h : false = true) => Bool.noConfusion h) (fun (_ : false = false) => ?_)
        refine And.intro (fun hc => ?_) (fun hc => ?_)
        · have hc' : l.getD (k - 1) 0 = 0 := by
            simp only [hw, Int.toNat_natCast, beq_iff_eq] at hc
            omega
          repeat first | refine And.intro rfl ?_ | refine Or.inl (And.intro rfl ?_) | refine Or.inr (And.intro rfl ?_) | refine And.intro (fun (_ : true = true) => ?_) (fun (h : true = false) => Bool.noConfusion h) | refine And.intro (fun (h : false = true) => Bool.noConfusion h) (fun (_ : false = false) => ?_)
          refine Exists.intro ⟨k - 1, by omega, nv_drop_zero l k hk hk1 hk2 hc'⟩ (And.intro (show k - 1 < k by omega) ?_)
          repeat first | exact trivial | refine And.intro rfl ?_ | refine And.intro trivial ?_ | refine And.intro (And.intro rfl trivial) ?_ | refine And.intro (And.intro rfl (And.intro rfl trivial)) ?_
          exact And.intro (avI hw) trivial
        · have hc' : l.getD (k - 1) 0 ≠ 0 := by
            simp only [hw, Int.toNat_natCast, beq_eq_false_iff_ne] at hc
            omega
          repeat first | refine And.intro rfl ?_ | refine Or.inl (And.intro rfl ?_) | refine Or.inr (And.intro rfl ?_) | refine And.intro (fun (_ : true = true) => ?_) (fun (h : true = false) => Bool.noConfusion h) | refine And.intro (fun (h : false = true) => Bool.noConfusion h) (fun (_ : false = false) => ?_)
          refine And.intro (show 0 ≤ (k : Int) ∧ (k : Int) ≤ l.length by omega) ?_
          repeat first | refine And.intro rfl ?_ | refine Or.inl (And.intro rfl ?_) | refine Or.inr (And.intro rfl ?_) | refine And.intro (fun (_ : true = true) => ?_) (fun (h : true = false) => Bool.noConfusion h) | refine And.intro (fun (h : false = true) => Bool.noConfusion h) (fun (_ : false = false) => ?_)
          refine And.intro (show 0 + (l.take (k : Int).toNat).length ≤ 1000000 by rw [List.length_take]; omega) ?_
          refine resN (dg_trim l hl k hk1 hk2 (fun h => ?_))
          rw [List.getD_eq_getElem?_getD, List.getElem?_eq_getElem (by omega)] at hc'
          simpa using hc'
      · have hk0 : k = 0 := by omega
        subst hk0
        repeat first | refine And.intro rfl ?_ | refine Or.inl (And.intro rfl ?_) | refine Or.inr (And.intro rfl ?_) | refine And.intro (fun (_ : true = true) => ?_) (fun (h : true = false) => Bool.noConfusion h) | refine And.intro (fun (h : false = true) => Bool.noConfusion h) (fun (_ : false = false) => ?_)
        refine And.intro (show 0 ≤ (0 : Int) ∧ (0 : Int) ≤ l.length by omega) ?_
        repeat first | refine And.intro rfl ?_ | refine Or.inl (And.intro rfl ?_) | refine Or.inr (And.intro rfl ?_) | refine And.intro (fun (_ : true = true) => ?_) (fun (h : true = false) => Bool.noConfusion h) | refine And.intro (fun (h : false = true) => Bool.noConfusion h) (fun (_ : false = false) => ?_)
        refine And.intro (show 0 + (l.take (0 : Int).toNat).length ≤ 1000000 by rw [List.length_take]; omega) ?_
        exact resN (dg_trim l hl 0 (by omega) hk2 (fun h => absurd h (by decide)))
  · cases h

def TR0 : Table := [(79, sLimb), (74, sNorm)]
theorem TR0_ok : TabOk TR0 := TabOk.cons ok_limb (TabOk.cons ok_rNorm TabOk.nil)

theorem max_nat (a b : Nat) : (if ((b : Nat) : Int) > ((a : Nat) : Int) then ((b : Nat) : Int) else ((a : Nat) : Int)) = ((max a b : Nat) : Int) := by
  by_cases h : ((b : Nat) : Int) > ((a : Nat) : Int)
  · rw [if_pos h, Nat.max_eq_right (by omega)]
  · rw [if_neg h, Nat.max_eq_left (by omega)]

set_option maxHeartbeats 1000000 in
theorem ok_rCmp : Ok1 84 sCmp := by
  refine ok_of TR0_ok Tryz.func84 rfl (by kernel_rfl) ?_
  intro xs pre res h hp hlim
  unfold sCmp at h
  split at h
  · rename_i l l'
    cases h
    obtain ⟨hl, hl', _⟩ := hlim
    have hl : Lim l := hl
    have hl' : Lim l' := hl'
    obtain ⟨p1, p2⟩ := hp
    have hw : IntKind.i64.wrap ((if ((l'.length : Nat) : Int) > ((l.length : Nat) : Int) then ((l'.length : Nat) : Int) else ((l.length : Nat) : Int)) - 1) = ((max l.length l'.length : Nat) : Int) - 1 := by rw [max_nat, wI (by omega) (by omega)]
    refine And.intro (Nat.le_of_ble_eq_true rfl) ?_
    repeat first | refine And.intro rfl ?_ | refine Or.inl (And.intro rfl ?_) | refine Or.inr (And.intro rfl ?_) | refine And.intro (fun (_ : true = true) => ?_) (fun (h : true = false) => Bool.noConfusion h) | refine And.intro (fun (h : false = true) => Bool.noConfusion h) (fun (_ : false = false) => ?_)
    refine Exists.intro {k : Nat // k ≤ max l.length l'.length ∧ nv (l.drop k) = nv (l'.drop k)} (Exists.intro (fun k => ⟨[(0, .one (.nat l)), (1, .one (.nat l')), (5, .val (.int .i64 ((k.1 : Int) - 1)))], ⟨[], []⟩⟩) (Exists.intro (fun k => k.1) (Exists.intro ⟨max l.length l'.length, Nat.le_refl _, by rw [List.drop_of_length_le (by omega), List.drop_of_length_le (by omega)]⟩ (And.intro ?_ ?_))))
    · repeat first | exact trivial | refine And.intro rfl ?_ | refine And.intro trivial ?_ | refine And.intro (And.intro rfl trivial) ?_ | refine And.intro (And.intro rfl (And.intro rfl trivial)) ?_
      exact And.intro (avI hw) trivial
    · rintro ⟨k, hk1, hk2⟩
      repeat first | refine And.intro rfl ?_ | refine Or.inl (And.intro rfl ?_) | refine Or.inr (And.intro rfl ?_) | refine And.intro (fun (_ : true = true) => ?_) (fun (h : true = false) => Bool.noConfusion h) | refine And.intro (fun (h : false = true) => Bool.noConfusion h) (fun (_ : false = false) => ?_)
      refine And.intro (fun hc => ?_) (fun hc => ?_)
      · have hk : 0 < k := by have : (k : Int) - 1 ≥ 0 := of_decide_eq_true hc; omega
        obtain ⟨j, rfl⟩ : ∃ j, k = j + 1 := ⟨k - 1, by omega⟩
        have ej : (((j + 1 : Nat) : Int) - 1).toNat = j := by omega
        have hlt1 : l.getD j 0 < 4294967296 := hl.getD j
        have hlt2 : l'.getD j 0 < 4294967296 := hl'.getD j
        repeat first | refine And.intro rfl ?_ | refine Or.inl (And.intro rfl ?_) | refine Or.inr (And.intro rfl ?_) | refine And.intro (fun (_ : true = true) => ?_) (fun (h : true = false) => Bool.noConfusion h) | refine And.intro (fun (h : false = true) => Bool.noConfusion h) (fun (_ : false = false) => ?_)
        refine And.intro (show 0 ≤ ((j + 1 : Nat) : Int) - 1 by omega) ?_
        repeat first | refine And.intro rfl ?_ | refine Or.inl (And.intro rfl ?_) | refine Or.inr (And.intro rfl ?_) | refine And.intro (fun (_ : true = true) => ?_) (fun (h : true = false) => Bool.noConfusion h) | refine And.intro (fun (h : false = true) => Bool.noConfusion h) (fun (_ : false = false) => ?_)
        refine And.intro (show 0 ≤ ((j + 1 : Nat) : Int) - 1 by omega) ?_
        rw [ej]
        repeat first | refine And.intro rfl ?_ | refine Or.inl (And.intro rfl ?_) | refine Or.inr (And.intro rfl ?_) | refine And.intro (fun (_ : true = true) => ?_) (fun (h : true = false) => Bool.noConfusion h) | refine And.intro (fun (h : false = true) => Bool.noConfusion h) (fun (_ : false = false) => ?_)
        refine And.intro (fun hx => ?_) (fun hx => ?_)
        · have hx : ((l.getD j 0 : Nat) : Int) < ((l'.getD j 0 : Nat) : Int) := of_decide_eq_true hx
          repeat first | refine And.intro rfl ?_ | refine Or.inl (And.intro rfl ?_) | refine Or.inr (And.intro rfl ?_) | refine And.intro (fun (_ : true = true) => ?_) (fun (h : true = false) => Bool.noConfusion h) | refine And.intro (fun (h : false = true) => Bool.noConfusion h) (fun (_ : false = false) => ?_)
          exact resI (cmpZ_lt (Int.ofNat_lt.2 (lt_limb hl hk2 (by omega)))).symm
        · have hx : ¬ ((l.getD j 0 : Nat) : Int) < ((l'.getD j 0 : Nat) : Int) := of_decide_eq_false hx
          repeat first | refine And.intro rfl ?_ | refine Or.inl (And.intro rfl ?_) | refine Or.inr (And.intro rfl ?_) | refine And.intro (fun (_ : true = true) => ?_) (fun (h : true = false) => Bool.noConfusion h) | refine And.intro (fun (h : false = true) => Bool.noConfusion h) (fun (_ : false = false) => ?_)
          refine And.intro (show 0 ≤ ((j + 1 : Nat) : Int) - 1 by omega) ?_
          repeat first | refine And.intro rfl ?_ | refine Or.inl (And.intro rfl ?_) | refine Or.inr (And.intro rfl ?_) | refine And.intro (fun (_ : true = true) => ?_) (fun (h : true = false) => Bool.noConfusion h) | refine And.intro (fun (h : false = true) => Bool.noConfusion h) (fun (_ : false = false) => ?_)
          refine And.intro (show 0 ≤ ((j + 1 : Nat) : Int) - 1 by omega) ?_
          rw [ej]
          repeat first | refine And.intro rfl ?_ | refine Or.inl (And.intro rfl ?_) | refine Or.inr (And.intro rfl ?_) | refine And.intro (fun (_ : true = true) => ?_) (fun (h : true = false) => Bool.noConfusion h) | refine And.intro (fun (h : false = true) => Bool.noConfusion h) (fun (_ : false = false) => ?_)
          refine And.intro (fun hy => ?_) (fun hy => ?_)
          · have hy : ((l.getD j 0 : Nat) : Int) > ((l'.getD j 0 : Nat) : Int) := of_decide_eq_true hy
            repeat first | refine And.intro rfl ?_ | refine Or.inl (And.intro rfl ?_) | refine Or.inr (And.intro rfl ?_) | refine And.intro (fun (_ : true = true) => ?_) (fun (h : true = false) => Bool.noConfusion h) | refine And.intro (fun (h : false = true) => Bool.noConfusion h) (fun (_ : false = false) => ?_)
            exact resI (cmpZ_gt (Int.ofNat_lt.2 (lt_limb hl' hk2.symm (by omega)))).symm
          · have hy : ¬ ((l.getD j 0 : Nat) : Int) > ((l'.getD j 0 : Nat) : Int) := of_decide_eq_false hy
            repeat first | refine And.intro rfl ?_ | refine Or.inl (And.intro rfl ?_) | refine Or.inr (And.intro rfl ?_) | refine And.intro (fun (_ : true = true) => ?_) (fun (h : true = false) => Bool.noConfusion h) | refine And.intro (fun (h : false = true) => Bool.noConfusion h) (fun (_ : false = false) => ?_)
            refine Exists.intro ⟨j, by omega, by rw [nv_drop_cons, nv_drop_cons l' j, hk2, show l.getD j 0 = l'.getD j 0 by omega]⟩ (And.intro (show j < j + 1 by omega) ?_)
            repeat first | exact trivial | refine And.intro rfl ?_ | refine And.intro trivial ?_ | refine And.intro (And.intro rfl trivial) ?_ | refine And.intro (And.intro rfl (And.intro rfl trivial)) ?_
            exact And.intro (avI (show IntKind.i64.wrap (((j + 1 : Nat) : Int) - 1 - 1) = (j : Int) - 1 by rw [wI (by omega) (by omega)]; omega)) trivial
      · have hk : k = 0 := by have : ¬ (k : Int) - 1 ≥ 0 := of_decide_eq_false hc; omega
        subst hk
        repeat first | refine And.intro rfl ?_ | refine Or.inl (And.intro rfl ?_) | refine Or.inr (And.intro rfl ?_) | refine And.intro (fun (_ : true = true) => ?_) (fun (h : true = false) => Bool.noConfusion h) | refine And.intro (fun (h : false = true) => Bool.noConfusion h) (fun (_ : false = false) => ?_)
        exact resI (cmpZ_eq (by rw [List.drop_zero, List.drop_zero] at hk2; rw [hk2])).symm
  · cases h

end Go.Gm

/-
  The reference's natural numbers, part B: Add, Sub, Mul. Plain theorems; no condition.
-/
namespace Go.Gm
open Go.Proofs

def TR1 : Table := (84, sCmp) :: TR0
theorem TR1_ok : TabOk TR1 := TabOk.cons ok_rCmp TR0_ok

theorem tmodB (n : Nat) : Int.tmod ((n : Nat) : Int) 4294967296 = ((n % 4294967296 : Nat) : Int) := (Int.ofNat_tmod n 4294967296).symm
theorem tdivB (n : Nat) : Int.tdiv ((n : Nat) : Int) 4294967296 = ((n / 4294967296 : Nat) : Int) := (Int.ofNat_tdiv n 4294967296).symm
theorem u32mod (n : Nat) : IntKind.u32.wrap ((n % 4294967296 : Nat) : Int) = ((n % 4294967296 : Nat) : Int) := by rw [wU32]; omega

set_option maxHeartbeats 1000000 in
theorem ok_rAdd : Ok1 103 sAdd := by
  refine ok_of TR0_ok Tryz.func103 rfl (by kernel_rfl) ?_
  intro xs pre res h hp hlim
  unfold sAdd at h
  split at h
  · rename_i l l'
    cases h
    obtain ⟨hl, hl', _⟩ := hlim
    have hl : Lim l := hl
    have hl' : Lim l' := hl'
    obtain ⟨p1, p2⟩ := hp
    have hmx := max_nat l.length l'.length
    obtain ⟨M, hM⟩ : ∃ M, M = max l.length l'.length := ⟨_, rfl⟩
    rw [← hM] at hmx
    refine And.intro (Nat.le_of_ble_eq_true rfl) ?_
    repeat first | refine And.intro rfl ?_ | refine Or.inl (And.intro rfl ?_) | refine Or.inr (And.intro rfl ?_) | refine And.intro (fun (_ : true = true) => ?_) (fun (h : true = false) => Bool.noConfusion h) | refine And.intro (fun (h : false = true) => Bool.noConfusion h) (fun (_ : false = false) => ?_)
    refine Exists.intro {s : Nat × Nat × List Nat // s.2.1 ≤ 1 ∧ Lim s.2.2 ∧ s.2.2.length = s.1 ∧ (s.1 ≤ M ∨ (s.1 = M + 1 ∧ s.2.1 = 0)) ∧ nv s.2.2 + B ^ s.1 * s.2.1 = nv (l.take s.1) + nv (l'.take s.1)} (Exists.intro (fun s => ⟨[(0, .one (.nat l)), (1, .one (.nat l')), (5, .own 0), (6, .val (.int .u64 (s.1.2.1 : Nat))), (7, .val (.int .i64 (s.1.1 : Nat)))], ⟨[], [.n 74 s.1.2.2]⟩⟩) (Exists.intro (fun s => M + 1 - s.1.1) (Exists.intro ⟨(0, 0, []), Nat.zero_le _, Lim.nil, rfl, .inl (Nat.zero_le _), (by simp [nv])⟩ (And.intro ?_ ?_))))
    · repeat first | exact trivial | refine And.intro rfl ?_ | refine And.intro trivial ?_ | refine And.intro (And.intro rfl trivial) ?_ | refine And.intro (And.intro rfl (And.intro rfl trivial)) ?_
    · rintro ⟨⟨i, c, out⟩, hc1, hlo, hol, hi, hinv⟩
      simp only at hc1 hlo hol hi hinv
      have hx : l.getD i 0 < 4294967296 := hl.getD i
      have hy : l'.getD i 0 < 4294967296 := hl'.getD i
      have hi1 : IntKind.i64.wrap ((i : Int) + 1) = ((i + 1 : Nat) : Int) := by rw [wI (by omega) (by omega)]; omega
      obtain ⟨T, hT⟩ : ∃ T, T = c + l.getD i 0 + l'.getD i 0 := ⟨_, rfl⟩
      have eT : IntKind.u64.wrap (IntKind.u64.wrap (((l.getD (i : Int).toNat 0 : Nat) : Int) + ((l'.getD (i : Int).toNat 0 : Nat) : Int)) + ((c : Nat) : Int)) = ((T : Nat) : Int) := by
        rw [Int.toNat_natCast]
        simp only [wU64]
        omega
      have eq : IntKind.u64.wrap (((T / 4294967296 : Nat)) : Int) = ((T / 4294967296 : Nat) : Int) := wU (by omega) (by omega)
      have hstep := add_step hol hinv
      rw [← hT] at hstep
      have fin : i < M ∨ 0 < c → (T / 4294967296 ≤ 1 ∧ (i + 1 ≤ M ∨ (i + 1 = M + 1 ∧ T / 4294967296 = 0))) := by
        intro h
        refine ⟨by omega, ?_⟩
        rcases Nat.lt_or_ge i M with hlt | hge
        · exact .inl hlt
        · have him : i = M := by omega
          have h1 : l.getD i 0 = 0 := getD_end _ _ (by omega)
          have h2 : l'.getD i 0 = 0 := getD_end _ _ (by omega)
          exact .inr ⟨by omega, by omega⟩
      by_cases hlt : i < M
      · obtain ⟨f1, f2⟩ := fin (.inl hlt)
        repeat first | refine And.intro rfl ?_ | refine Or.inl (And.intro rfl ?_) | refine Or.inr (And.intro rfl ?_) | refine And.intro (fun (_ : true = true) => ?_) (fun (h : true = false) => Bool.noConfusion h) | refine And.intro (fun (h : false = true) => Bool.noConfusion h) (fun (_ : false = false) => ?_)
        refine Or.inr (And.intro (decide_eq_true (show (i : Int) < (if ((l'.length : Nat) : Int) > ((l.length : Nat) : Int) then ((l'.length : Nat) : Int) else ((l.length : Nat) : Int)) by rw [hmx]; omega)) ?_)
        repeat first | refine And.intro rfl ?_ | refine Or.inl (And.intro rfl ?_) | refine Or.inr (And.intro rfl ?_) | refine And.intro (fun (_ : true = true) => ?_) (fun (h : true = false) => Bool.noConfusion h) | refine And.intro (fun (h : false = true) => Bool.noConfusion h) (fun (_ : false = false) => ?_)
        refine And.intro (show 0 ≤ (i : Int) by omega) ?_
        repeat first | refine And.intro rfl ?_ | refine Or.inl (And.intro rfl ?_) | refine Or.inr (And.intro rfl ?_) | refine And.intro (fun (_ : true = true) => ?_) (fun (h : true = false) => Bool.noConfusion h) | refine And.intro (fun (h : false = true) => Bool.noConfusion h) (fun (_ : false = false) => ?_)
        refine And.intro (show 0 ≤ (i : Int) by omega) ?_
        repeat first | refine And.intro rfl ?_ | refine Or.inl (And.intro rfl ?_) | refine Or.inr (And.intro rfl ?_) | refine And.intro (fun (_ : true = true) => ?_) (fun (h : true = false) => Bool.noConfusion h) | refine And.intro (fun (h : false = true) => Bool.noConfusion h) (fun (_ : false = false) => ?_)
        refine And.intro (show (4294967296 : Int) ≠ 0 by decide) ?_
        rw [eT, tmodB]
        repeat first | refine And.intro rfl ?_ | refine Or.inl (And.intro rfl ?_) | refine Or.inr (And.intro rfl ?_) | refine And.intro (fun (_ : true = true) => ?_) (fun (h : true = false) => Bool.noConfusion h) | refine And.intro (fun (h : false = true) => Bool.noConfusion h) (fun (_ : false = false) => ?_)
        refine And.intro (show (0 ≤ IntKind.u32.wrap ((T % 4294967296 : Nat) : Int) ∧ IntKind.u32.wrap ((T % 4294967296 : Nat) : Int) < 4294967296) ∧ True from ⟨by rw [u32mod]; omega, trivial⟩) ?_
        rw [u32mod]
        repeat first | refine And.intro rfl ?_ | refine Or.inl (And.intro rfl ?_) | refine Or.inr (And.intro rfl ?_) | refine And.intro (fun (_ : true = true) => ?_) (fun (h : true = false) => Bool.noConfusion h) | refine And.intro (fun (h : false = true) => Bool.noConfusion h) (fun (_ : false = false) => ?_)
        refine And.intro (show out.length + 1 ≤ 1000000 by omega) ?_
        repeat first | refine And.intro rfl ?_ | refine Or.inl (And.intro rfl ?_) | refine Or.inr (And.intro rfl ?_) | refine And.intro (fun (_ : true = true) => ?_) (fun (h : true = false) => Bool.noConfusion h) | refine And.intro (fun (h : false = true) => Bool.noConfusion h) (fun (_ : false = false) => ?_)
        refine And.intro (show (4294967296 : Int) ≠ 0 by decide) ?_
        rw [tdivB, eq]
        repeat first | refine And.intro rfl ?_ | refine Or.inl (And.intro rfl ?_) | refine Or.inr (And.intro rfl ?_) | refine And.intro (fun (_ : true = true) => ?_) (fun (h : true = false) => Bool.noConfusion h) | refine And.intro (fun (h : false = true) => Bool.noConfusion h) (fun (_ : false = false) => ?_)
        refine Exists.intro ⟨(i + 1, T / 4294967296, out ++ [T % 4294967296]), f1, hlo.append (Lim.cons (show T % 4294967296 < 4294967296 by omega) Lim.nil), (show (out ++ [T % 4294967296]).length = i + 1 by simp [hol]), f2, hstep⟩ (And.intro (show M + 1 - (i + 1) < M + 1 - i by omega) ?_)
        repeat first | exact trivial | refine And.intro rfl ?_ | refine And.intro trivial ?_ | refine And.intro (And.intro rfl trivial) ?_ | refine And.intro (And.intro rfl (And.intro rfl trivial)) ?_
        exact And.intro (avI hi1) trivial
      · by_cases hc0 : 0 < c
        · obtain ⟨f1, f2⟩ := fin (.inr hc0)
          repeat first | refine And.intro rfl ?_ | refine Or.inl (And.intro rfl ?_) | refine Or.inr (And.intro rfl ?_) | refine And.intro (fun (_ : true = true) => ?_) (fun (h : true = false) => Bool.noConfusion h) | refine And.intro (fun (h : false = true) => Bool.noConfusion h) (fun (_ : false = false) => ?_)
          refine Or.inl (And.intro (decide_eq_false (show ¬ (i : Int) < (if ((l'.length : Nat) : Int) > ((l.length : Nat) : Int) then ((l'.length : Nat) : Int) else ((l.length : Nat) : Int)) by rw [hmx]; omega)) ?_)
          repeat first | refine And.intro rfl ?_ | refine Or.inl (And.intro rfl ?_) | refine Or.inr (And.intro rfl ?_) | refine And.intro (fun (_ : true = true) => ?_) (fun (h : true = false) => Bool.noConfusion h) | refine And.intro (fun (h : false = true) => Bool.noConfusion h) (fun (_ : false = false) => ?_)
          refine And.intro (fun _ => ?_) (fun hx => absurd hx (by rw [decide_eq_true (show (c : Int) > 0 by omega)]; decide))
          repeat first | refine And.intro rfl ?_ | refine Or.inl (And.intro rfl ?_) | refine Or.inr (And.intro rfl ?_) | refine And.intro (fun (_ : true = true) => ?_) (fun (h : true = false) => Bool.noConfusion h) | refine And.intro (fun (h : false = true) => Bool.noConfusion h) (fun (_ : false = false) => ?_)
          refine And.intro (show 0 ≤ (i : Int) by omega) ?_
          repeat first | refine And.intro rfl ?_ | refine Or.inl (And.intro rfl ?_) | refine Or.inr (And.intro rfl ?_) | refine And.intro (fun (_ : true = true) => ?_) (fun (h : true = false) => Bool.noConfusion h) | refine And.intro (fun (h : false = true) => Bool.noConfusion h) (fun (_ : false = false) => ?_)
          refine And.intro (show 0 ≤ (i : Int) by omega) ?_
          repeat first | refine And.intro rfl ?_ | refine Or.inl (And.intro rfl ?_) | refine Or.inr (And.intro rfl ?_) | refine And.intro (fun (_ : true = true) => ?_) (fun (h : true = false) => Bool.noConfusion h) | refine And.intro (fun (h : false = true) => Bool.noConfusion h) (fun (_ : false = false) => ?_)
          refine And.intro (show (4294967296 : Int) ≠ 0 by decide) ?_
          rw [eT, tmodB]
          repeat first | refine And.intro rfl ?_ | refine Or.inl (And.intro rfl ?_) | refine Or.inr (And.intro rfl ?_) | refine And.intro (fun (_ : true = true) => ?_) (fun (h : true = false) => Bool.noConfusion h) | refine And.intro (fun (h : false = true) => Bool.noConfusion h) (fun (_ : false = false) => ?_)
          refine And.intro (show (0 ≤ IntKind.u32.wrap ((T % 4294967296 : Nat) : Int) ∧ IntKind.u32.wrap ((T % 4294967296 : Nat) : Int) < 4294967296) ∧ True from ⟨by rw [u32mod]; omega, trivial⟩) ?_
          rw [u32mod]
          repeat first | refine And.intro rfl ?_ | refine Or.inl (And.intro rfl ?_) | refine Or.inr (And.intro rfl ?_) | refine And.intro (fun (_ : true = true) => ?_) (fun (h : true = false) => Bool.noConfusion h) | refine And.intro (fun (h : false = true) => Bool.noConfusion h) (fun (_ : false = false) => ?_)
          refine And.intro (show out.length + 1 ≤ 1000000 by omega) ?_
          repeat first | refine And.intro rfl ?_ | refine Or.inl (And.intro rfl ?_) | refine Or.inr (And.intro rfl ?_) | refine And.intro (fun (_ : true = true) => ?_) (fun (h : true = false) => Bool.noConfusion h) | refine And.intro (fun (h : false = true) => Bool.noConfusion h) (fun (_ : false = false) => ?_)
          refine And.intro (show (4294967296 : Int) ≠ 0 by decide) ?_
          rw [tdivB, eq]
          repeat first | refine And.intro rfl ?_ | refine Or.inl (And.intro rfl ?_) | refine Or.inr (And.intro rfl ?_) | refine And.intro (fun (_ : true = true) => ?_) (fun (h : true = false) => Bool.noConfusion h) | refine And.intro (fun (h : false = true) => Bool.noConfusion h) (fun (_ : false = false) => ?_)
          refine Exists.intro ⟨(i + 1, T / 4294967296, out ++ [T % 4294967296]), f1, hlo.append (Lim.cons (show T % 4294967296 < 4294967296 by omega) Lim.nil), (show (out ++ [T % 4294967296]).length = i + 1 by simp [hol]), f2, hstep⟩ (And.intro (show M + 1 - (i + 1) < M + 1 - i by omega) ?_)
          repeat first | exact trivial | refine And.intro rfl ?_ | refine And.intro trivial ?_ | refine And.intro (And.intro rfl trivial) ?_ | refine And.intro (And.intro rfl (And.intro rfl trivial)) ?_
          exact And.intro (avI hi1) trivial
        · have hcz : c = 0 := by omega
          subst hcz
          repeat first | refine And.intro rfl ?_ | refine Or.inl (And.intro rfl ?_) | refine Or.inr (And.intro rfl ?_) | refine And.intro (fun (_ : true = true) => ?_) (fun (h : true = false) => Bool.noConfusion h) | refine And.intro (fun (h : false = true) => Bool.noConfusion h) (fun (_ : false = false) => ?_)
          refine Or.inl (And.intro (decide_eq_false (show ¬ (i : Int) < (if ((l'.length : Nat) : Int) > ((l.length : Nat) : Int) then ((l'.length : Nat) : Int) else ((l.length : Nat) : Int)) by rw [hmx]; omega)) ?_)
          repeat first | refine And.intro rfl ?_ | refine Or.inl (And.intro rfl ?_) | refine Or.inr (And.intro rfl ?_) | refine And.intro (fun (_ : true = true) => ?_) (fun (h : true = false) => Bool.noConfusion h) | refine And.intro (fun (h : false = true) => Bool.noConfusion h) (fun (_ : false = false) => ?_)
          refine And.intro (show out.length ≤ 1000000 by omega) ?_
          refine resN (congrArg dg ?_)
          show nv out = nv l + nv l'
          rw [Nat.mul_zero, Nat.add_zero] at hinv
          rw [hinv, List.take_of_length_le (by omega), List.take_of_length_le (by omega)]
  · cases h

set_option maxHeartbeats 1000000 in
theorem ok_rSub : Ok1 99 sSub := by
  refine ok_of TR1_ok Tryz.func99 rfl (by kernel_rfl) ?_
  intro xs pre res h hp hlim
  unfold sSub at h
  split at h
  · rename_i l l'
    cases h
    obtain ⟨hl, hl', _⟩ := hlim
    have hl : Lim l := hl
    have hl' : Lim l' := hl'
    obtain ⟨p1, p2⟩ := hp
    have hmx := max_nat l.length l'.length
    obtain ⟨M, hM⟩ : ∃ M, M = max l.length l'.length := ⟨_, rfl⟩
    rw [← hM] at hmx
    refine And.intro (Nat.le_of_ble_eq_true rfl) ?_
    repeat first | refine And.intro rfl ?_ | refine Or.inl (And.intro rfl ?_) | refine Or.inr (And.intro rfl ?_) | refine And.intro (fun (_ : true = true) => ?_) (fun (h : true = false) => Bool.noConfusion h) | refine And.intro (fun (h : false = true) => Bool.noConfusion h) (fun (_ : false = false) => ?_)
    refine And.intro (show l.length ≤ 1000000 ∧ l'.length ≤ 1000000 by omega) ?_
    repeat first | refine And.intro rfl ?_ | refine Or.inl (And.intro rfl ?_) | refine Or.inr (And.intro rfl ?_) | refine And.intro (fun (_ : true = true) => ?_) (fun (h : true = false) => Bool.noConfusion h) | refine And.intro (fun (h : false = true) => Bool.noConfusion h) (fun (_ : false = false) => ?_)
    refine And.intro (fun hc => ?_) (fun hc => ?_)
    · have hlt : cmpZ (nv l) (nv l') < 0 := of_decide_eq_true hc
      have hlt' : nv l < nv l' := by
        rcases Nat.lt_or_ge (nv l) (nv l') with h | h
        · exact h
        · rcases Nat.lt_or_eq_of_le h with h | h
          · rw [cmpZ_gt (by omega)] at hlt; omega
          · rw [cmpZ_eq (by omega)] at hlt; omega
      repeat first | refine And.intro rfl ?_ | refine Or.inl (And.intro rfl ?_) | refine Or.inr (And.intro rfl ?_) | refine And.intro (fun (_ : true = true) => ?_) (fun (h : true = false) => Bool.noConfusion h) | refine And.intro (fun (h : false = true) => Bool.noConfusion h) (fun (_ : false = false) => ?_)
      exact resT (by rw [Nat.sub_eq_zero_of_le (by omega), dg_zero]) (decide_eq_false (by omega)).symm
    · have hge : ¬ cmpZ (nv l) (nv l') < 0 := of_decide_eq_false hc
      have hge' : nv l' ≤ nv l := by
        rcases Nat.lt_or_ge (nv l) (nv l') with h | h
        · rw [cmpZ_lt (by omega)] at hge; omega
        · exact h
      repeat first | refine And.intro rfl ?_ | refine Or.inl (And.intro rfl ?_) | refine Or.inr (And.intro rfl ?_) | refine And.intro (fun (_ : true = true) => ?_) (fun (h : true = false) => Bool.noConfusion h) | refine And.intro (fun (h : false = true) => Bool.noConfusion h) (fun (_ : false = false) => ?_)
      refine Exists.intro {s : Nat × Nat × List Nat // s.1 ≤ M ∧ s.2.1 ≤ 1 ∧ Lim s.2.2 ∧ s.2.2.length = s.1 ∧ nv s.2.2 + nv (l'.take s.1) = nv (l.take s.1) + B ^ s.1 * s.2.1} (Exists.intro (fun s => ⟨[(0, .one (.nat l)), (1, .one (.nat l')), (6, .own 0), (7, .val (.int .u64 (s.1.2.1 : Nat))), (8, .val (.int .i64 (s.1.1 : Nat)))], ⟨[], [.n 74 s.1.2.2]⟩⟩) (Exists.intro (fun s => M - s.1.1) (Exists.intro ⟨(0, 0, []), Nat.zero_le _, Nat.zero_le _, Lim.nil, rfl, (by simp [nv])⟩ (And.intro ?_ ?_))))
      · repeat first | exact trivial | refine And.intro rfl ?_ | refine And.intro trivial ?_ | refine And.intro (And.intro rfl trivial) ?_ | refine And.intro (And.intro rfl (And.intro rfl trivial)) ?_
      · rintro ⟨⟨i, b, out⟩, hi, hb1, hlo, hol, hinv⟩
        simp only at hi hb1 hlo hol hinv
        have hx : l.getD i 0 < 4294967296 := hl.getD i
        have hy : l'.getD i 0 < 4294967296 := hl'.getD i
        have hi1 : IntKind.i64.wrap ((i : Int) + 1) = ((i + 1 : Nat) : Int) := by rw [wI (by omega) (by omega)]; omega
        obtain ⟨T, hT⟩ : ∃ T, T = 4294967296 + l.getD i 0 - l'.getD i 0 - b := ⟨_, rfl⟩
        have eT : IntKind.u64.wrap (IntKind.u64.wrap (IntKind.u64.wrap (4294967296 + ((l.getD (i : Int).toNat 0 : Nat) : Int)) - ((l'.getD (i : Int).toNat 0 : Nat) : Int)) - ((b : Nat) : Int)) = ((T : Nat) : Int) := by
          rw [Int.toNat_natCast]
          simp only [wU64]
          omega
        have eq : IntKind.u64.wrap (((T / 4294967296 : Nat)) : Int) = ((T / 4294967296 : Nat) : Int) := wU (by omega) (by omega)
        have eb : IntKind.u64.wrap (1 - (((T / 4294967296 : Nat)) : Int)) = ((1 - T / 4294967296 : Nat) : Int) := by rw [wU (by omega) (by omega)]; omega
        have hstep := sub_step (v := T % 4294967296) (b' := 1 - T / 4294967296) hol hinv rfl rfl (by rw [B_eq]; omega)
        repeat first | refine And.intro rfl ?_ | refine Or.inl (And.intro rfl ?_) | refine Or.inr (And.intro rfl ?_) | refine And.intro (fun (_ : true = true) => ?_) (fun (h : true = false) => Bool.noConfusion h) | refine And.intro (fun (h : false = true) => Bool.noConfusion h) (fun (_ : false = false) => ?_)
        refine And.intro (fun hc => ?_) (fun hc => ?_)
        · have hlt : (i : Int) < (M : Int) := by rw [← hmx]; exact of_decide_eq_true hc
          repeat first | refine And.intro rfl ?_ | refine Or.inl (And.intro rfl ?_) | refine Or.inr (And.intro rfl ?_) | refine And.intro (fun (_ : true = true) => ?_) (fun (h : true = false) => Bool.noConfusion h) | refine And.intro (fun (h : false = true) => Bool.noConfusion h) (fun (_ : false = false) => ?_)
          refine And.intro (show 0 ≤ (i : Int) by omega) ?_
          repeat first | refine And.intro rfl ?_ | refine Or.inl (And.intro rfl ?_) | refine Or.inr (And.intro rfl ?_) | refine And.intro (fun (_ : true = true) => ?_) (fun (h : true = false) => Bool.noConfusion h) | refine And.intro (fun (h : false = true) => Bool.noConfusion h) (fun (_ : false = false) => ?_)
          refine And.intro (show 0 ≤ (i : Int) by omega) ?_
          repeat first | refine And.intro rfl ?_ | refine Or.inl (And.intro rfl ?_) | refine Or.inr (And.intro rfl ?_) | refine And.intro (fun (_ : true = true) => ?_) (fun (h : true = false) => Bool.noConfusion h) | refine And.intro (fun (h : false = true) => Bool.noConfusion h) (fun (_ : false = false) => ?_)
          refine And.intro (show (4294967296 : Int) ≠ 0 by decide) ?_
          rw [eT, tmodB]
          repeat first | refine And.intro rfl ?_ | refine Or.inl (And.intro rfl ?_) | refine Or.inr (And.intro rfl ?_) | refine And.intro (fun (_ : true = true) => ?_) (fun (h : true = false) => Bool.noConfusion h) | refine And.intro (fun (h : false = true) => Bool.noConfusion h) (fun (_ : false = false) => ?_)
          refine And.intro (show (0 ≤ IntKind.u32.wrap ((T % 4294967296 : Nat) : Int) ∧ IntKind.u32.wrap ((T % 4294967296 : Nat) : Int) < 4294967296) ∧ True from ⟨by rw [u32mod]; omega, trivial⟩) ?_
          rw [u32mod]
          repeat first | refine And.intro rfl ?_ | refine Or.inl (And.intro rfl ?_) | refine Or.inr (And.intro rfl ?_) | refine And.intro (fun (_ : true = true) => ?_) (fun (h : true = false) => Bool.noConfusion h) | refine And.intro (fun (h : false = true) => Bool.noConfusion h) (fun (_ : false = false) => ?_)
          refine And.intro (show out.length + 1 ≤ 1000000 by omega) ?_
          repeat first | refine And.intro rfl ?_ | refine Or.inl (And.intro rfl ?_) | refine Or.inr (And.intro rfl ?_) | refine And.intro (fun (_ : true = true) => ?_) (fun (h : true = false) => Bool.noConfusion h) | refine And.intro (fun (h : false = true) => Bool.noConfusion h) (fun (_ : false = false) => ?_)
          refine And.intro (show (4294967296 : Int) ≠ 0 by decide) ?_
          rw [tdivB, eq]
          repeat first | refine And.intro rfl ?_ | refine Or.inl (And.intro rfl ?_) | refine Or.inr (And.intro rfl ?_) | refine And.intro (fun (_ : true = true) => ?_) (fun (h : true = false) => Bool.noConfusion h) | refine And.intro (fun (h : false = true) => Bool.noConfusion h) (fun (_ : false = false) => ?_)
          refine Exists.intro ⟨(i + 1, 1 - T / 4294967296, out ++ [T % 4294967296]), (show i + 1 ≤ M by omega), (show 1 - T / 4294967296 ≤ 1 by omega), hlo.append (Lim.cons (show T % 4294967296 < 4294967296 by omega) Lim.nil), (show (out ++ [T % 4294967296]).length = i + 1 by simp [hol]), hstep⟩ (And.intro (show M - (i + 1) < M - i by omega) ?_)
          repeat first | exact trivial | refine And.intro rfl ?_ | refine And.intro trivial ?_ | refine And.intro (And.intro rfl trivial) ?_ | refine And.intro (And.intro rfl (And.intro rfl trivial)) ?_
          refine And.intro (avI eb) ?_
          repeat first | exact trivial | refine And.intro rfl ?_ | refine And.intro trivial ?_ | refine And.intro (And.intro rfl trivial) ?_ | refine And.intro (And.intro rfl (And.intro rfl trivial)) ?_
          exact And.intro (avI hi1) trivial
        · have hlt : ¬ (i : Int) < (M : Int) := by rw [← hmx]; exact of_decide_eq_false hc
          have him : i = M := by omega
          have hno := nv_lt hlo
          rw [List.take_of_length_le (by omega), List.take_of_length_le (by omega)] at hinv
          have hb0 : b = 0 := by
            rcases Nat.eq_zero_or_pos b with h | h
            · exact h
            · have : b = 1 := by omega
              subst this
              rw [hol] at hno
              omega
          subst hb0
          repeat first | refine And.intro rfl ?_ | refine Or.inl (And.intro rfl ?_) | refine Or.inr (And.intro rfl ?_) | refine And.intro (fun (_ : true = true) => ?_) (fun (h : true = false) => Bool.noConfusion h) | refine And.intro (fun (h : false = true) => Bool.noConfusion h) (fun (_ : false = false) => ?_)
          refine And.intro (show out.length ≤ 1000000 by omega) ?_
          exact resT (congrArg dg (show nv out = nv l - nv l' by omega)) (decide_eq_true hge').symm
  · cases h

def KR : TabK := [(79, pLimb)]
theorem KR_ok : ∀ f s, (f, s) ∈ KR → OkK f s := fun f s h => by
  simp only [KR, List.mem_singleton, Prod.mk.injEq] at h
  obtain ⟨rfl, rfl⟩ := h
  exact okK_limb

set_option maxHeartbeats 2000000 in
theorem ok_rMul : Ok1 52 sMul := by
  refine ok_of4 TR0_ok KR_ok Tryz.func52 rfl (by kernel_rfl) ?_
  intro xs pre res h hp hlim
  unfold sMul at h
  split at h
  · rename_i l l'
    cases h
    obtain ⟨hl, hl', _⟩ := hlim
    have hl : Lim l := hl
    have hl' : Lim l' := hl'
    obtain ⟨p1, p2⟩ := hp
    have hw : IntKind.i64.wrap ((l.length : Int) + (l'.length : Int)) = ((l.length + l'.length : Nat) : Int) := by rw [wI (by omega) (by omega)]; omega
    refine And.intro (Nat.le_of_ble_eq_true rfl) ?_
    repeat first | refine And.intro rfl ?_ | refine Or.inl (And.intro rfl ?_) | refine Or.inr (And.intro rfl ?_) | refine And.intro (fun (_ : true = true) => ?_) (fun (h : true = false) => Bool.noConfusion h) | refine And.intro (fun (h : false = true) => Bool.noConfusion h) (fun (_ : false = false) => ?_)
    refine And.intro (show 0 ≤ IntKind.i64.wrap ((l.length : Int) + (l'.length : Int)) ∧ IntKind.i64.wrap ((l.length : Int) + (l'.length : Int)) ≤ IntKind.i64.wrap ((l.length : Int) + (l'.length : Int)) ∧ IntKind.i64.wrap ((l.length : Int) + (l'.length : Int)) ≤ 1000000 by rw [hw]; omega) ?_
    repeat first | refine And.intro rfl ?_ | refine Or.inl (And.intro rfl ?_) | refine Or.inr (And.intro rfl ?_) | refine And.intro (fun (_ : true = true) => ?_) (fun (h : true = false) => Bool.noConfusion h) | refine And.intro (fun (h : false = true) => Bool.noConfusion h) (fun (_ : false = false) => ?_)
    refine Exists.intro {s : Nat × List Nat // s.1 ≤ l.length ∧ Lim s.2 ∧ s.2.length = s.1 + l'.length ∧ nv s.2 = nv (l.take s.1) * nv l'} (Exists.intro (fun s => ⟨[(0, .one (.nat l)), (1, .one (.nat l')), (5, .own 0), (6, .val (.int .i64 (s.1.1 : Nat)))], ⟨[], [.n 74 (s.1.2 ++ List.replicate (l.length - s.1.1) 0)]⟩⟩) (Exists.intro (fun s => l.length - s.1.1) (Exists.intro ⟨(0, List.replicate l'.length 0), by simp [nv_replicate, Lim.replicate, nv]⟩ (And.intro ?_ ?_))))
    · repeat first | exact trivial | refine And.intro rfl ?_ | refine And.intro trivial ?_ | refine And.intro (And.intro rfl trivial) ?_ | refine And.intro (And.intro rfl (And.intro rfl trivial)) ?_
      refine And.intro (And.intro (rwN ?_) trivial) ?_
      · show List.replicate (IntKind.i64.wrap ((l.length : Int) + (l'.length : Int))).toNat 0 = List.replicate l'.length 0 ++ List.replicate (l.length - 0) 0
        rw [hw, Int.toNat_natCast, List.replicate_append_replicate]
        congr 1
        omega
      · repeat first | exact trivial | refine And.intro rfl ?_ | refine And.intro trivial ?_ | refine And.intro (And.intro rfl trivial) ?_ | refine And.intro (And.intro rfl (And.intro rfl trivial)) ?_
    · rintro ⟨⟨i, rr⟩, hi, hlr, hrl, hinv⟩
      simp only at hi hlr hrl hinv
      repeat first | refine And.intro rfl ?_ | refine Or.inl (And.intro rfl ?_) | refine Or.inr (And.intro rfl ?_) | refine And.intro (fun (_ : true = true) => ?_) (fun (h : true = false) => Bool.noConfusion h) | refine And.intro (fun (h : false = true) => Bool.noConfusion h) (fun (_ : false = false) => ?_)
      refine And.intro (fun hc => ?_) (fun hc => ?_)
      · have hi' : (i : Int) < (l.length : Int) := of_decide_eq_true hc
        have hx : l.getD i 0 < 4294967296 := hl.getD i
        repeat first | refine And.intro rfl ?_ | refine Or.inl (And.intro rfl ?_) | refine Or.inr (And.intro rfl ?_) | refine And.intro (fun (_ : true = true) => ?_) (fun (h : true = false) => Bool.noConfusion h) | refine And.intro (fun (h : false = true) => Bool.noConfusion h) (fun (_ : false = false) => ?_)
        refine Exists.intro {s : Nat × Nat × List Nat // s.1 ≤ l'.length ∧ s.2.1 < 4294967296 ∧ Lim s.2.2 ∧ s.2.2.length = i + l'.length ∧ nv s.2.2 + B ^ (i + s.1) * s.2.1 = nv rr + B ^ i * l.getD i 0 * nv (l'.take s.1)} (Exists.intro (fun s => ⟨[(0, .one (.nat l)), (1, .one (.nat l')), (5, .own 0), (6, .val (.int .i64 (i : Nat))), (7, .val (.int .u64 (s.1.2.1 : Nat))), (8, .val (.int .i64 (s.1.1 : Nat)))], ⟨[], [.n 74 (s.1.2.2 ++ List.replicate (l.length - i) 0)]⟩⟩) (Exists.intro (fun s => l'.length - s.1.1) (Exists.intro ⟨(0, 0, rr), (show 0 ≤ _ from Nat.zero_le _), (show 0 < 4294967296 by decide), hlr, hrl, (by simp [nv])⟩ (And.intro ?_ ?_))))
        · repeat first | exact trivial | refine And.intro rfl ?_ | refine And.intro trivial ?_ | refine And.intro (And.intro rfl trivial) ?_ | refine And.intro (And.intro rfl (And.intro rfl trivial)) ?_
        · rintro ⟨⟨k, c, r⟩, hk, hc1, hlo, hol, hinv2⟩
          simp only at hk hc1 hlo hol hinv2
          have hrow : (r ++ List.replicate (l.length - i) 0).length = l.length + l'.length := by simp; omega
          repeat first | refine And.intro rfl ?_ | refine Or.inl (And.intro rfl ?_) | refine Or.inr (And.intro rfl ?_) | refine And.intro (fun (_ : true = true) => ?_) (fun (h : true = false) => Bool.noConfusion h) | refine And.intro (fun (h : false = true) => Bool.noConfusion h) (fun (_ : false = false) => ?_)
          refine And.intro (fun hc => ?_) (fun hc => ?_)
          · have hk' : (k : Int) < (l'.length : Int) := of_decide_eq_true hc
            have hy : l'.getD k 0 < 4294967296 := hl'.getD k
            have hz : l.getD i 0 * l'.getD k 0 ≤ 4294967295 * 4294967295 := Nat.mul_le_mul (by omega) (by omega)
            have ho : r.getD (i + k) 0 < 4294967296 := hlo.getD (i + k)
            have hik : IntKind.i64.wrap ((i : Int) + (k : Int)) = ((i + k : Nat) : Int) := by rw [wI (by omega) (by omega)]; omega
            have hk1 : IntKind.i64.wrap ((k : Int) + 1) = ((k + 1 : Nat) : Int) := by rw [wI (by omega) (by omega)]; omega
            obtain ⟨T, hT⟩ : ∃ T, T = c + (l.getD i 0 * l'.getD k 0 + r.getD (i + k) 0) := ⟨_, rfl⟩
            have hT1 : T < 18446744073709551616 := by omega
            have eT : IntKind.u64.wrap (IntKind.u64.wrap (IntKind.u64.wrap (((l.getD (i : Int).toNat 0 : Nat) : Int) * ((l'.getD (k : Int).toNat 0 : Nat) : Int)) + (((r ++ List.replicate (l.length - i) 0).getD (IntKind.i64.wrap ((i : Int) + (k : Int))).toNat 0 : Nat) : Int)) + ((c : Nat) : Int)) = ((T : Nat) : Int) := by
              rw [hT, hik, Int.toNat_natCast, Int.toNat_natCast, Int.toNat_natCast, getD_app _ _ _ (by omega), ← Int.natCast_mul]
              simp only [wU64]
              generalize l.getD i 0 * l'.getD k 0 = z at *
              omega
            have eq : IntKind.u64.wrap (((T / 4294967296 : Nat)) : Int) = ((T / 4294967296 : Nat) : Int) := wU (by omega) (by omega)
            repeat first | refine And.intro rfl ?_ | refine Or.inl (And.intro rfl ?_) | refine Or.inr (And.intro rfl ?_) | refine And.intro (fun (_ : true = true) => ?_) (fun (h : true = false) => Bool.noConfusion h) | refine And.intro (fun (h : false = true) => Bool.noConfusion h) (fun (_ : false = false) => ?_)
            refine And.intro (show 0 ≤ (i : Int) by omega) ?_
            repeat first | refine And.intro rfl ?_ | refine Or.inl (And.intro rfl ?_) | refine Or.inr (And.intro rfl ?_) | refine And.intro (fun (_ : true = true) => ?_) (fun (h : true = false) => Bool.noConfusion h) | refine And.intro (fun (h : false = true) => Bool.noConfusion h) (fun (_ : false = false) => ?_)
            refine And.intro (show 0 ≤ (k : Int) by omega) ?_
            repeat first | refine And.intro rfl ?_ | refine Or.inl (And.intro rfl ?_) | refine Or.inr (And.intro rfl ?_) | refine And.intro (fun (_ : true = true) => ?_) (fun (h : true = false) => Bool.noConfusion h) | refine And.intro (fun (h : false = true) => Bool.noConfusion h) (fun (_ : false = false) => ?_)
            refine And.intro (show 0 ≤ IntKind.i64.wrap ((i : Int) + (k : Int)) by rw [hik]; omega) ?_
            repeat first | refine And.intro rfl ?_ | refine Or.inl (And.intro rfl ?_) | refine Or.inr (And.intro rfl ?_) | refine And.intro (fun (_ : true = true) => ?_) (fun (h : true = false) => Bool.noConfusion h) | refine And.intro (fun (h : false = true) => Bool.noConfusion h) (fun (_ : false = false) => ?_)
            refine And.intro (show (4294967296 : Int) ≠ 0 by decide) ?_
            rw [eT, tmodB]
            repeat first | refine And.intro rfl ?_ | refine Or.inl (And.intro rfl ?_) | refine Or.inr (And.intro rfl ?_) | refine And.intro (fun (_ : true = true) => ?_) (fun (h : true = false) => Bool.noConfusion h) | refine And.intro (fun (h : false = true) => Bool.noConfusion h) (fun (_ : false = false) => ?_)
            refine And.intro (show 0 ≤ IntKind.i64.wrap ((i : Int) + (k : Int)) ∧ IntKind.i64.wrap ((i : Int) + (k : Int)) < (r ++ List.replicate (l.length - i) 0).length by rw [hik, hrow]; omega) ?_
            repeat first | refine And.intro rfl ?_ | refine Or.inl (And.intro rfl ?_) | refine Or.inr (And.intro rfl ?_) | refine And.intro (fun (_ : true = true) => ?_) (fun (h : true = false) => Bool.noConfusion h) | refine And.intro (fun (h : false = true) => Bool.noConfusion h) (fun (_ : false = false) => ?_)
            refine And.intro (show (IntKind.i64.wrap ((i : Int) + (k : Int))).toNat < (r ++ List.replicate (l.length - i) 0).length ∧ 0 ≤ IntKind.u32.wrap ((T % 4294967296 : Nat) : Int) ∧ IntKind.u32.wrap ((T % 4294967296 : Nat) : Int) < 4294967296 by rw [u32mod, hik, hrow]; omega) ?_
            repeat first | refine And.intro rfl ?_ | refine Or.inl (And.intro rfl ?_) | refine Or.inr (And.intro rfl ?_) | refine And.intro (fun (_ : true = true) => ?_) (fun (h : true = false) => Bool.noConfusion h) | refine And.intro (fun (h : false = true) => Bool.noConfusion h) (fun (_ : false = false) => ?_)
            refine And.intro (show (4294967296 : Int) ≠ 0 by decide) ?_
            rw [tdivB, eq]
            repeat first | refine And.intro rfl ?_ | refine Or.inl (And.intro rfl ?_) | refine Or.inr (And.intro rfl ?_) | refine And.intro (fun (_ : true = true) => ?_) (fun (h : true = false) => Bool.noConfusion h) | refine And.intro (fun (h : false = true) => Bool.noConfusion h) (fun (_ : false = false) => ?_)
            refine Exists.intro ⟨(k + 1, T / 4294967296, r.set (i + k) (T % 4294967296)), (show k + 1 ≤ _ by omega), (show T / 4294967296 < 4294967296 by omega), hlo.set (i + k) (show T % 4294967296 < 4294967296 by omega), (show (r.set _ _).length = _ by rw [List.length_set]; exact hol), mul_step (by omega) hinv2 T hT⟩ (And.intro (show l'.length - (k + 1) < l'.length - k by omega) ?_)
            repeat first | exact trivial | refine And.intro rfl ?_ | refine And.intro trivial ?_ | refine And.intro (And.intro rfl trivial) ?_ | refine And.intro (And.intro rfl (And.intro rfl trivial)) ?_
            refine And.intro (And.intro (rwN ?_) trivial) ?_
            · show (r ++ List.replicate (l.length - i) 0).set (IntKind.i64.wrap ((i : Int) + (k : Int))).toNat (IntKind.u32.wrap ((T % 4294967296 : Nat) : Int)).toNat = r.set (i + k) (T % 4294967296) ++ List.replicate (l.length - i) 0
              rw [u32mod, hik, Int.toNat_natCast, Int.toNat_natCast, List.set_append_left _ _ (by omega)]
            · repeat first | exact trivial | refine And.intro rfl ?_ | refine And.intro trivial ?_ | refine And.intro (And.intro rfl trivial) ?_ | refine And.intro (And.intro rfl (And.intro rfl trivial)) ?_
              exact And.intro (avI hk1) trivial
          · have hk' : ¬ (k : Int) < (l'.length : Int) := of_decide_eq_false hc
            have hkm : k = l'.length := by omega
            have him : IntKind.i64.wrap ((i : Int) + (l'.length : Int)) = ((i + l'.length : Nat) : Int) := by rw [wI (by omega) (by omega)]; omega
            have e32 : IntKind.u32.wrap ((c : Nat) : Int) = ((c : Nat) : Int) := by rw [wU32]; omega
            repeat first | refine And.intro rfl ?_ | refine Or.inl (And.intro rfl ?_) | refine Or.inr (And.intro rfl ?_) | refine And.intro (fun (_ : true = true) => ?_) (fun (h : true = false) => Bool.noConfusion h) | refine And.intro (fun (h : false = true) => Bool.noConfusion h) (fun (_ : false = false) => ?_)
            refine And.intro (show 0 ≤ IntKind.i64.wrap ((i : Int) + (l'.length : Int)) ∧ IntKind.i64.wrap ((i : Int) + (l'.length : Int)) < (r ++ List.replicate (l.length - i) 0).length by rw [him, hrow]; omega) ?_
            repeat first | refine And.intro rfl ?_ | refine Or.inl (And.intro rfl ?_) | refine Or.inr (And.intro rfl ?_) | refine And.intro (fun (_ : true = true) => ?_) (fun (h : true = false) => Bool.noConfusion h) | refine And.intro (fun (h : false = true) => Bool.noConfusion h) (fun (_ : false = false) => ?_)
            refine And.intro (show (IntKind.i64.wrap ((i : Int) + (l'.length : Int))).toNat < (r ++ List.replicate (l.length - i) 0).length ∧ 0 ≤ IntKind.u32.wrap ((c : Nat) : Int) ∧ IntKind.u32.wrap ((c : Nat) : Int) < 4294967296 by rw [e32, him, hrow]; omega) ?_
            repeat first | refine And.intro rfl ?_ | refine Or.inl (And.intro rfl ?_) | refine Or.inr (And.intro rfl ?_) | refine And.intro (fun (_ : true = true) => ?_) (fun (h : true = false) => Bool.noConfusion h) | refine And.intro (fun (h : false = true) => Bool.noConfusion h) (fun (_ : false = false) => ?_)
            refine Exists.intro ⟨(i + 1, r ++ [c]), (show i + 1 ≤ _ by omega), hlo.append (Lim.cons hc1 Lim.nil), (show (r ++ [c]).length = _ by simp; omega), ?_⟩ (And.intro (show l.length - (i + 1) < l.length - i by omega) ?_)
            · show nv (r ++ [c]) = nv (l.take (i + 1)) * nv l'
              rw [nv_snoc, hol, ← hkm, hinv2, take_end _ _ (by omega), hinv, nv_take_getD', Nat.add_mul]
            · repeat first | exact trivial | refine And.intro rfl ?_ | refine And.intro trivial ?_ | refine And.intro (And.intro rfl trivial) ?_ | refine And.intro (And.intro rfl (And.intro rfl trivial)) ?_
              refine And.intro (And.intro (rwN ?_) trivial) ?_
              · show (r ++ List.replicate (l.length - i) 0).set (IntKind.i64.wrap ((i : Int) + (l'.length : Int))).toNat (IntKind.u32.wrap ((c : Nat) : Int)).toNat = (r ++ [c]) ++ List.replicate (l.length - (i + 1)) 0
                rw [e32, him, Int.toNat_natCast, Int.toNat_natCast, ← hol, set_mid r _ _ (by omega)]
                congr 1
              · repeat first | exact trivial | refine And.intro rfl ?_ | refine And.intro trivial ?_ | refine And.intro (And.intro rfl trivial) ?_ | refine And.intro (And.intro rfl (And.intro rfl trivial)) ?_
                exact And.intro (avI (show IntKind.i64.wrap ((i : Int) + 1) = ((i + 1 : Nat) : Int) by rw [wI (by omega) (by omega)]; omega)) trivial
      · have hi' : ¬ (i : Int) < (l.length : Int) := of_decide_eq_false hc
        repeat first | refine And.intro rfl ?_ | refine Or.inl (And.intro rfl ?_) | refine Or.inr (And.intro rfl ?_) | refine And.intro (fun (_ : true = true) => ?_) (fun (h : true = false) => Bool.noConfusion h) | refine And.intro (fun (h : false = true) => Bool.noConfusion h) (fun (_ : false = false) => ?_)
        refine And.intro (show (rr ++ List.replicate (l.length - i) 0).length ≤ 1000000 by simp; omega) ?_
        refine resN (congrArg dg ?_)
        show nv (rr ++ List.replicate (l.length - i) 0) = nv l * nv l'
        rw [nv_append, nv_replicate, Nat.mul_zero, Nat.add_zero, hinv, take_end _ _ (by omega)]
  · cases h

end Go.Gm

/-
  The reference's natural numbers, part C: Bits, Shift, Half. Plain theorems; no condition.
-/
namespace Go.Gm
open Go.Proofs

def sBits : List RV → Option (Prop × Res)
  | [.one (.b (.nat l))] => some (l.length ≤ 100000, .r (.val (.int .i64 (blen (nv l) : Nat))))
  | _ => none

theorem blen_dg_le {x L : Nat} (h : (dg x).length ≤ L) : blen x ≤ 32 * L := by
  have h1 := lt_of_dg_len x L h
  rcases Nat.eq_zero_or_pos x with e | e
  · subst e; exact Nat.zero_le _
  · obtain ⟨m, e, h2, _⟩ := blen_pos e
    rw [← pow32] at h1
    have := (Nat.pow_lt_pow_iff_right (a := 2) (by decide)).1 (Nat.lt_of_le_of_lt h2 h1)
    omega
theorem dg_blen {x L : Nat} (h : blen x ≤ 32 * L) : (dg x).length ≤ L := by
  refine dg_len_of_lt x L ?_
  rw [← pow32]
  exact Nat.lt_of_lt_of_le (blen_lt x) (Nat.pow_le_pow_right (by decide) h)
theorem blen_ge_len {x n : Nat} (h : (dg x).length = n + 1) : 32 * n < blen x := by
  obtain ⟨h1, h2⟩ := dg_top h
  rw [blen_dg h]
  obtain ⟨m, e, _⟩ := blen_pos h2
  omega
/-- No more bits, no more limbs. -/
theorem len_blen {a b : Nat} (h : blen a ≤ blen b) : (dg a).length ≤ (dg b).length := dg_blen (Nat.le_trans h (blen_dg_le (Nat.le_refl _)))

set_option maxHeartbeats 1000000 in
theorem ok_Bits : Ok1 97 sBits := by
  refine ok_of TR0_ok Tryz.func97 rfl (by kernel_rfl) ?_
  intro xs pre res h hp hlim
  unfold sBits at h
  split at h
  · rename_i l
    cases h
    have hl : Lim l := hlim.1
    have hd := dg_nv_len hl
    obtain ⟨x, hx⟩ : ∃ x, x = nv l := ⟨_, rfl⟩
    rw [← hx] at hd ⊢
    refine And.intro (Nat.le_of_ble_eq_true rfl) ?_
    repeat first | refine And.intro rfl ?_ | refine Or.inl (And.intro rfl ?_) | refine Or.inr (And.intro rfl ?_) | refine And.intro (fun (_ : true = true) => ?_) (fun (h : true = false) => Bool.noConfusion h) | refine And.intro (fun (h : false = true) => Bool.noConfusion h) (fun (_ : false = false) => ?_)
    refine And.intro (show l.length ≤ 1000000 by omega) ?_
    rw [← hx]
    repeat first | refine And.intro rfl ?_ | refine Or.inl (And.intro rfl ?_) | refine Or.inr (And.intro rfl ?_) | refine And.intro (fun (_ : true = true) => ?_) (fun (h : true = false) => Bool.noConfusion h) | refine And.intro (fun (h : false = true) => Bool.noConfusion h) (fun (_ : false = false) => ?_)
    refine And.intro (fun hc => ?_) (fun hc => ?_)
    · have hz : x = 0 := by
        have : (dg x).length = 0 := by simpa using hc
        exact dg_eq_nil.1 (List.eq_nil_of_length_eq_zero this)
      repeat first | refine And.intro rfl ?_ | refine Or.inl (And.intro rfl ?_) | refine Or.inr (And.intro rfl ?_) | refine And.intro (fun (_ : true = true) => ?_) (fun (h : true = false) => Bool.noConfusion h) | refine And.intro (fun (h : false = true) => Bool.noConfusion h) (fun (_ : false = false) => ?_)
      exact resI (by rw [hz]; rfl)
    · have hpos : (dg x).length ≠ 0 := fun h => by rw [h] at hc; cases hc
      obtain ⟨n, hn⟩ : ∃ n, (dg x).length = n + 1 := ⟨(dg x).length - 1, by omega⟩
      have hb := blen_dg hn
      have hbl := blen_dg_le (Nat.le_refl (dg x).length)
      have w1 : IntKind.i64.wrap (((dg x).length : Int) - 1) = ((n : Nat) : Int) := by rw [hn, wI (by omega) (by omega)]; omega
      have w2 : IntKind.i64.wrap (32 * ((n : Nat) : Int)) = ((32 * n : Nat) : Int) := by rw [wI (by omega) (by omega)]; omega
      have htop : (dg x).getD n 0 < 4294967296 := (dg_lim x).getD n
      repeat first | refine And.intro rfl ?_ | refine Or.inl (And.intro rfl ?_) | refine Or.inr (And.intro rfl ?_) | refine And.intro (fun (_ : true = true) => ?_) (fun (h : true = false) => Bool.noConfusion h) | refine And.intro (fun (h : false = true) => Bool.noConfusion h) (fun (_ : false = false) => ?_)
      refine And.intro (show 0 ≤ IntKind.i64.wrap (((dg x).length : Int) - 1) ∧ IntKind.i64.wrap (((dg x).length : Int) - 1) < ((dg x).length : Int) by rw [w1]; omega) ?_
      rw [w1, w2, Int.toNat_natCast]
      repeat first | refine And.intro rfl ?_ | refine Or.inl (And.intro rfl ?_) | refine Or.inr (And.intro rfl ?_) | refine And.intro (fun (_ : true = true) => ?_) (fun (h : true = false) => Bool.noConfusion h) | refine And.intro (fun (h : false = true) => Bool.noConfusion h) (fun (_ : false = false) => ?_)
      refine Exists.intro {s : Nat × Nat // s.2 < 4294967296 ∧ s.1 + blen s.2 = blen x} (Exists.intro (fun s => ⟨[(4, .val (.int .i64 (s.1.1 : Nat))), (5, .val (.int .u32 (s.1.2 : Nat)))], ⟨[], []⟩⟩) (Exists.intro (fun s => s.1.2) (Exists.intro ⟨(32 * n, (dg x).getD n 0), htop, hb.symm⟩ (And.intro ?_ ?_))))
      · repeat first | exact trivial | refine And.intro rfl ?_ | refine And.intro trivial ?_ | refine And.intro (And.intro rfl trivial) ?_ | refine And.intro (And.intro rfl (And.intro rfl trivial)) ?_
      · rintro ⟨⟨k, t⟩, ht, hinv⟩
        simp only at ht hinv
        repeat first | refine And.intro rfl ?_ | refine Or.inl (And.intro rfl ?_) | refine Or.inr (And.intro rfl ?_) | refine And.intro (fun (_ : true = true) => ?_) (fun (h : true = false) => Bool.noConfusion h) | refine And.intro (fun (h : false = true) => Bool.noConfusion h) (fun (_ : false = false) => ?_)
        refine And.intro (fun hc => ?_) (fun hc => ?_)
        · have htp : 0 < t := by have : (t : Int) > 0 := of_decide_eq_true hc; omega
          have hh := blen_half htp
          have e2 : Int.tdiv ((t : Nat) : Int) 2 = ((t / 2 : Nat) : Int) := (Int.ofNat_tdiv t 2).symm
          have e3 : IntKind.u32.wrap ((t / 2 : Nat) : Int) = ((t / 2 : Nat) : Int) := by rw [wU32]; omega
          have hk1 : IntKind.i64.wrap ((k : Int) + 1) = ((k + 1 : Nat) : Int) := by rw [wI (by omega) (by omega)]; omega
          repeat first | refine And.intro rfl ?_ | refine Or.inl (And.intro rfl ?_) | refine Or.inr (And.intro rfl ?_) | refine And.intro (fun (_ : true = true) => ?_) (fun (h : true = false) => Bool.noConfusion h) | refine And.intro (fun (h : false = true) => Bool.noConfusion h) (fun (_ : false = false) => ?_)
          refine And.intro (show (2 : Int) ≠ 0 by decide) ?_
          rw [e2, e3, hk1]
          repeat first | refine And.intro rfl ?_ | refine Or.inl (And.intro rfl ?_) | refine Or.inr (And.intro rfl ?_) | refine And.intro (fun (_ : true = true) => ?_) (fun (h : true = false) => Bool.noConfusion h) | refine And.intro (fun (h : false = true) => Bool.noConfusion h) (fun (_ : false = false) => ?_)
          refine Exists.intro ⟨(k + 1, t / 2), (show t / 2 < 4294967296 by omega), (show k + 1 + blen (t / 2) = blen x by omega)⟩ (And.intro (show t / 2 < t by omega) ?_)
          repeat first | exact trivial | refine And.intro rfl ?_ | refine And.intro trivial ?_ | refine And.intro (And.intro rfl trivial) ?_ | refine And.intro (And.intro rfl (And.intro rfl trivial)) ?_
        · have htz : t = 0 := by have : ¬ (t : Int) > 0 := of_decide_eq_false hc; omega
          subst htz
          repeat first | refine And.intro rfl ?_ | refine Or.inl (And.intro rfl ?_) | refine Or.inr (And.intro rfl ?_) | refine And.intro (fun (_ : true = true) => ?_) (fun (h : true = false) => Bool.noConfusion h) | refine And.intro (fun (h : false = true) => Bool.noConfusion h) (fun (_ : false = false) => ?_)
          refine resI ?_
          show ((k : Nat) : Int) = ((blen x : Nat) : Int)
          rw [← hinv]
          rfl
  · cases h

theorem shlU (x r : Nat) (hr : r < 32) (hx : x < 4294967296) : IntKind.u64.wrap (((x : Nat) : Int) * 2 ^ min (IntKind.u64.wrap ((r : Nat) : Int)).toNat IntKind.u64.bits) = ((x * 2 ^ r : Nat) : Int) ∧ x * 2 ^ r ≤ 4294967295 * 2147483648 := by
  have h := shl_limb x r hr hx
  rw [wU (x := ((x : Nat) : Int)) (by omega) (by omega)] at h
  rw [wU (x := ((r : Nat) : Int)) (by omega) (by omega)]
  refine ⟨h.1, ?_⟩
  have h1 : (2 : Nat) ^ r ≤ 2 ^ 31 := Nat.pow_le_pow_right (by decide) (by omega)
  exact Nat.mul_le_mul (by omega) h1

def sShift : List RV → Option (Prop × Res)
  | [.one (.b (.nat l)), .one (.b (.val (.int .i64 n)))] => some (l.length ≤ 100000 ∧ 0 ≤ n ∧ n ≤ 3200000, .r (.one (.nat (dg (nv l * 2 ^ n.toNat)))))
  | _ => none

set_option maxHeartbeats 1000000 in
theorem ok_Shift : Ok1 98 sShift := by
  refine ok_of TR0_ok Tryz.func98 rfl (by kernel_rfl) ?_
  intro xs pre res h hp hlim
  unfold sShift at h
  split at h
  · rename_i l nn
    cases h
    have hl : Lim l := hlim.1
    obtain ⟨p1, p2, p3⟩ := hp
    obtain ⟨n, rfl⟩ : ∃ n : Nat, nn = (n : Int) := ⟨nn.toNat, by omega⟩
    rw [Int.toNat_natCast]
    have e32 : Int.tdiv ((n : Nat) : Int) 32 = ((n / 32 : Nat) : Int) := (Int.ofNat_tdiv n 32).symm
    have w32 : IntKind.i64.wrap ((n / 32 : Nat) : Int) = ((n / 32 : Nat) : Int) := wI (by omega) (by omega)
    have m32 : Int.tmod ((n : Nat) : Int) 32 = ((n % 32 : Nat) : Int) := (Int.ofNat_tmod n 32).symm
    obtain ⟨r, hr⟩ : ∃ r, r = n % 32 := ⟨_, rfl⟩
    obtain ⟨q, hq⟩ : ∃ q, q = n / 32 := ⟨_, rfl⟩
    have hr32 : r < 32 := by omega
    have h31 : (2 : Nat) ^ r ≤ 2147483648 := by
      have : (2 : Nat) ^ r ≤ 2 ^ 31 := Nat.pow_le_pow_right (by decide) (by omega)
      exact this
    rw [← hr] at m32
    rw [← hq] at e32 w32
    refine And.intro (Nat.le_of_ble_eq_true rfl) ?_
    repeat first | refine And.intro rfl ?_ | refine Or.inl (And.intro rfl ?_) | refine Or.inr (And.intro rfl ?_) | refine And.intro (fun (_ : true = true) => ?_) (fun (h : true = false) => Bool.noConfusion h) | refine And.intro (fun (h : false = true) => Bool.noConfusion h) (fun (_ : false = false) => ?_)
    refine And.intro (show (32 : Int) ≠ 0 by decide) ?_
    rw [e32, w32]
    repeat first | refine And.intro rfl ?_ | refine Or.inl (And.intro rfl ?_) | refine Or.inr (And.intro rfl ?_) | refine And.intro (fun (_ : true = true) => ?_) (fun (h : true = false) => Bool.noConfusion h) | refine And.intro (fun (h : false = true) => Bool.noConfusion h) (fun (_ : false = false) => ?_)
    refine And.intro (show 0 ≤ ((q : Nat) : Int) ∧ ((q : Nat) : Int) ≤ ((q : Nat) : Int) ∧ ((q : Nat) : Int) ≤ 1000000 by omega) ?_
    repeat first | refine And.intro rfl ?_ | refine Or.inl (And.intro rfl ?_) | refine Or.inr (And.intro rfl ?_) | refine And.intro (fun (_ : true = true) => ?_) (fun (h : true = false) => Bool.noConfusion h) | refine And.intro (fun (h : false = true) => Bool.noConfusion h) (fun (_ : false = false) => ?_)
    refine Exists.intro {s : Nat × Nat × List Nat // s.1 ≤ l.length + 1 ∧ s.2.1 < 2 ^ r ∧ (s.1 = l.length + 1 → s.2.1 = 0) ∧ Lim s.2.2 ∧ s.2.2.length = s.1 ∧ nv s.2.2 + B ^ s.1 * s.2.1 = nv (l.take s.1) * 2 ^ r} (Exists.intro (fun s => ⟨[(0, .one (.nat l)), (1, .val (.int .i64 (n : Nat))), (5, .own 0), (6, .val (.int .u64 (s.1.2.1 : Nat))), (7, .val (.int .i64 (s.1.1 : Nat)))], ⟨[], [.n 74 (List.replicate q 0 ++ s.1.2.2)]⟩⟩) (Exists.intro (fun s => l.length + 1 - s.1.1) (Exists.intro ⟨(0, 0, []), Nat.zero_le _, Nat.pos_of_ne_zero (by simp), fun _ => rfl, Lim.nil, rfl, (by simp [nv])⟩ (And.intro ?_ ?_))))
    · repeat first | exact trivial | refine And.intro rfl ?_ | refine And.intro trivial ?_ | refine And.intro (And.intro rfl trivial) ?_ | refine And.intro (And.intro rfl (And.intro rfl trivial)) ?_
      refine And.intro (And.intro (rwN ?_) trivial) ?_
      · show List.replicate ((q : Nat) : Int).toNat 0 = List.replicate q 0 ++ []
        rw [Int.toNat_natCast, List.append_nil]
      · repeat first | exact trivial | refine And.intro rfl ?_ | refine And.intro trivial ?_ | refine And.intro (And.intro rfl trivial) ?_ | refine And.intro (And.intro rfl (And.intro rfl trivial)) ?_
    · rintro ⟨⟨i, c, o⟩, hi, hc1, hc0, hlo, hol, hinv⟩
      simp only at hi hc1 hc0 hlo hol hinv
      have hx : l.getD i 0 < 4294967296 := hl.getD i
      obtain ⟨s1, s2⟩ := shlU (l.getD i 0) r hr32 hx
      obtain ⟨T, hT⟩ : ∃ T, T = l.getD i 0 * 2 ^ r + c := ⟨_, rfl⟩
      have eT : IntKind.u64.wrap (((l.getD i 0 * 2 ^ r : Nat) : Int) + ((c : Nat) : Int)) = ((T : Nat) : Int) := by
        rw [hT]
        generalize l.getD i 0 * 2 ^ r = z at *
        rw [wU (by omega) (by omega)]
        rfl
      have hT1 : T < 18446744073709551616 := by
        rw [hT]
        generalize l.getD i 0 * 2 ^ r = z at *
        omega
      have eq : IntKind.u64.wrap (((T / 4294967296 : Nat)) : Int) = ((T / 4294967296 : Nat) : Int) := wU (by omega) (by omega)
      have hi1 : IntKind.i64.wrap ((i : Int) + 1) = ((i + 1 : Nat) : Int) := by rw [wI (by omega) (by omega)]; omega
      have hstep := shift_step hol hinv hT
      have hcar := shift_carry hx hc1 hT
      repeat first | refine And.intro rfl ?_ | refine Or.inl (And.intro rfl ?_) | refine Or.inr (And.intro rfl ?_) | refine And.intro (fun (_ : true = true) => ?_) (fun (h : true = false) => Bool.noConfusion h) | refine And.intro (fun (h : false = true) => Bool.noConfusion h) (fun (_ : false = false) => ?_)
      refine And.intro (fun hc => ?_) (fun hc => ?_)
      · have hi' : (i : Int) ≤ (l.length : Int) := of_decide_eq_true hc
        repeat first | refine And.intro rfl ?_ | refine Or.inl (And.intro rfl ?_) | refine Or.inr (And.intro rfl ?_) | refine And.intro (fun (_ : true = true) => ?_) (fun (h : true = false) => Bool.noConfusion h) | refine And.intro (fun (h : false = true) => Bool.noConfusion h) (fun (_ : false = false) => ?_)
        refine And.intro (show 0 ≤ (i : Int) by omega) ?_
        repeat first | refine And.intro rfl ?_ | refine Or.inl (And.intro rfl ?_) | refine Or.inr (And.intro rfl ?_) | refine And.intro (fun (_ : true = true) => ?_) (fun (h : true = false) => Bool.noConfusion h) | refine And.intro (fun (h : false = true) => Bool.noConfusion h) (fun (_ : false = false) => ?_)
        refine And.intro (show (32 : Int) ≠ 0 by decide) ?_
        rw [m32, Int.toNat_natCast]
        repeat first | refine And.intro rfl ?_ | refine Or.inl (And.intro rfl ?_) | refine Or.inr (And.intro rfl ?_) | refine And.intro (fun (_ : true = true) => ?_) (fun (h : true = false) => Bool.noConfusion h) | refine And.intro (fun (h : false = true) => Bool.noConfusion h) (fun (_ : false = false) => ?_)
        refine And.intro (show 0 ≤ IntKind.u64.wrap ((r : Nat) : Int) by rw [wU (by omega) (by omega)]; omega) ?_
        rw [s1]
        repeat first | refine And.intro rfl ?_ | refine Or.inl (And.intro rfl ?_) | refine Or.inr (And.intro rfl ?_) | refine And.intro (fun (_ : true = true) => ?_) (fun (h : true = false) => Bool.noConfusion h) | refine And.intro (fun (h : false = true) => Bool.noConfusion h) (fun (_ : false = false) => ?_)
        refine And.intro (show (4294967296 : Int) ≠ 0 by decide) ?_
        rw [eT, tmodB]
        repeat first | refine And.intro rfl ?_ | refine Or.inl (And.intro rfl ?_) | refine Or.inr (And.intro rfl ?_) | refine And.intro (fun (_ : true = true) => ?_) (fun (h : true = false) => Bool.noConfusion h) | refine And.intro (fun (h : false = true) => Bool.noConfusion h) (fun (_ : false = false) => ?_)
        refine And.intro (show (0 ≤ IntKind.u32.wrap ((T % 4294967296 : Nat) : Int) ∧ IntKind.u32.wrap ((T % 4294967296 : Nat) : Int) < 4294967296) ∧ True from ⟨by rw [u32mod]; omega, trivial⟩) ?_
        rw [u32mod]
        repeat first | refine And.intro rfl ?_ | refine Or.inl (And.intro rfl ?_) | refine Or.inr (And.intro rfl ?_) | refine And.intro (fun (_ : true = true) => ?_) (fun (h : true = false) => Bool.noConfusion h) | refine And.intro (fun (h : false = true) => Bool.noConfusion h) (fun (_ : false = false) => ?_)
        refine And.intro (show (List.replicate q 0 ++ o).length + 1 ≤ 1000000 by simp; omega) ?_
        repeat first | refine And.intro rfl ?_ | refine Or.inl (And.intro rfl ?_) | refine Or.inr (And.intro rfl ?_) | refine And.intro (fun (_ : true = true) => ?_) (fun (h : true = false) => Bool.noConfusion h) | refine And.intro (fun (h : false = true) => Bool.noConfusion h) (fun (_ : false = false) => ?_)
        refine And.intro (show (4294967296 : Int) ≠ 0 by decide) ?_
        rw [tdivB, eq]
        repeat first | refine And.intro rfl ?_ | refine Or.inl (And.intro rfl ?_) | refine Or.inr (And.intro rfl ?_) | refine And.intro (fun (_ : true = true) => ?_) (fun (h : true = false) => Bool.noConfusion h) | refine And.intro (fun (h : false = true) => Bool.noConfusion h) (fun (_ : false = false) => ?_)
        refine Exists.intro ⟨(i + 1, T / 4294967296, o ++ [T % 4294967296]), (show i + 1 ≤ _ by omega), hcar, (fun h => ?_), hlo.append (Lim.cons (show T % 4294967296 < 4294967296 by omega) Lim.nil), (show (o ++ [T % 4294967296]).length = i + 1 by simp [hol]), hstep⟩ (And.intro (show l.length + 1 - (i + 1) < l.length + 1 - i by omega) ?_)
        · have h : i + 1 = l.length + 1 := h
          have hz : l.getD i 0 = 0 := getD_end _ _ (by omega)
          show T / 4294967296 = 0
          rw [hT, hz, Nat.zero_mul]
          omega
        · repeat first | exact trivial | refine And.intro rfl ?_ | refine And.intro trivial ?_ | refine And.intro (And.intro rfl trivial) ?_ | refine And.intro (And.intro rfl (And.intro rfl trivial)) ?_
          refine And.intro (And.intro (rwN ?_) trivial) ?_
          · show (List.replicate q 0 ++ o) ++ [((T % 4294967296 : Nat) : Int).toNat] = List.replicate q 0 ++ (o ++ [T % 4294967296])
            rw [Int.toNat_natCast, List.append_assoc]
          · repeat first | exact trivial | refine And.intro rfl ?_ | refine And.intro trivial ?_ | refine And.intro (And.intro rfl trivial) ?_ | refine And.intro (And.intro rfl (And.intro rfl trivial)) ?_
            exact And.intro (avI hi1) trivial
      · have hi' : ¬ (i : Int) ≤ (l.length : Int) := of_decide_eq_false hc
        have hcz := hc0 (by omega)
        subst hcz
        rw [Nat.mul_zero, Nat.add_zero, List.take_of_length_le (by omega)] at hinv
        repeat first | refine And.intro rfl ?_ | refine Or.inl (And.intro rfl ?_) | refine Or.inr (And.intro rfl ?_) | refine And.intro (fun (_ : true = true) => ?_) (fun (h : true = false) => Bool.noConfusion h) | refine And.intro (fun (h : false = true) => Bool.noConfusion h) (fun (_ : false = false) => ?_)
        refine And.intro (show (List.replicate q 0 ++ o).length ≤ 1000000 by simp; omega) ?_
        refine resN (congrArg dg ?_)
        show nv (List.replicate q 0 ++ o) = nv l * 2 ^ n
        rw [nv_append, nv_replicate, Nat.zero_add, List.length_replicate, hinv, hq, hr, shift_all]
  · cases h

def sHalf : List RV → Option (Prop × Res)
  | [.one (.b (.nat l))] => some (l.length ≤ 100000, .r (.one (.nat (dg (nv l / 2)))))
  | _ => none

set_option maxHeartbeats 1000000 in
theorem ok_Half : Ok1 100 sHalf := by
  refine ok_of TR0_ok Tryz.func100 rfl (by kernel_rfl) ?_
  intro xs pre res h hp hlim
  unfold sHalf at h
  split at h
  · rename_i l
    cases h
    have hl : Lim l := hlim.1
    refine And.intro (Nat.le_of_ble_eq_true rfl) ?_
    repeat first | refine And.intro rfl ?_ | refine Or.inl (And.intro rfl ?_) | refine Or.inr (And.intro rfl ?_) | refine And.intro (fun (_ : true = true) => ?_) (fun (h : true = false) => Bool.noConfusion h) | refine And.intro (fun (h : false = true) => Bool.noConfusion h) (fun (_ : false = false) => ?_)
    refine Exists.intro {s : Nat × List Nat // s.1 ≤ l.length ∧ Lim s.2 ∧ s.2.length = s.1 ∧ 2 * nv s.2 + nv l % 2 = nv (l.take s.1) + B ^ s.1 * (l.getD s.1 0 % 2)} (Exists.intro (fun s => ⟨[(0, .one (.nat l)), (3, .own 0), (4, .val (.int .i64 (s.1.1 : Nat)))], ⟨[], [.n 74 s.1.2]⟩⟩) (Exists.intro (fun s => l.length - s.1.1) (Exists.intro ⟨(0, []), Nat.zero_le _, Lim.nil, rfl, (by show 2 * 0 + nv l % 2 = 0 + B ^ 0 * (l.getD 0 0 % 2); rw [nv_odd, Nat.pow_zero, Nat.one_mul])⟩ (And.intro ?_ ?_))))
    · repeat first | exact trivial | refine And.intro rfl ?_ | refine And.intro trivial ?_ | refine And.intro (And.intro rfl trivial) ?_ | refine And.intro (And.intro rfl (And.intro rfl trivial)) ?_
    · rintro ⟨⟨i, out⟩, hi, hlo, hol, hinv⟩
      simp only at hi hlo hol hinv
      have hx : l.getD i 0 < 4294967296 := hl.getD i
      have hy : l.getD (i + 1) 0 < 4294967296 := hl.getD (i + 1)
      have hi1 : IntKind.i64.wrap ((i : Int) + 1) = ((i + 1 : Nat) : Int) := by rw [wI (by omega) (by omega)]; omega
      have hstep := half_step hol hinv
      have hlt := half_lt (y := l.getD (i + 1) 0) hx
      obtain ⟨T, hT⟩ : ∃ T, T = l.getD i 0 / 2 + l.getD (i + 1) 0 % 2 * 2147483648 := ⟨_, rfl⟩
      rw [← hT] at hstep hlt
      have eT : IntKind.u32.wrap (IntKind.u64.wrap (IntKind.u64.wrap (Int.tdiv ((l.getD (i : Int).toNat 0 : Nat) : Int) 2) + IntKind.u64.wrap (Int.tmod ((l.getD (IntKind.i64.wrap ((i : Int) + 1)).toNat 0 : Nat) : Int) 2 * 2147483648))) = ((T : Nat) : Int) := by
        rw [hi1, Int.toNat_natCast, Int.toNat_natCast, show Int.tdiv ((l.getD i 0 : Nat) : Int) 2 = ((l.getD i 0 / 2 : Nat) : Int) from (Int.ofNat_tdiv _ 2).symm, show Int.tmod ((l.getD (i + 1) 0 : Nat) : Int) 2 = ((l.getD (i + 1) 0 % 2 : Nat) : Int) from (Int.ofNat_tmod _ 2).symm]
        simp only [wU64, wU32]
        omega
      repeat first | refine And.intro rfl ?_ | refine Or.inl (And.intro rfl ?_) | refine Or.inr (And.intro rfl ?_) | refine And.intro (fun (_ : true = true) => ?_) (fun (h : true = false) => Bool.noConfusion h) | refine And.intro (fun (h : false = true) => Bool.noConfusion h) (fun (_ : false = false) => ?_)
      refine And.intro (fun hc => ?_) (fun hc => ?_)
      · have hi' : (i : Int) < (l.length : Int) := of_decide_eq_true hc
        repeat first | refine And.intro rfl ?_ | refine Or.inl (And.intro rfl ?_) | refine Or.inr (And.intro rfl ?_) | refine And.intro (fun (_ : true = true) => ?_) (fun (h : true = false) => Bool.noConfusion h) | refine And.intro (fun (h : false = true) => Bool.noConfusion h) (fun (_ : false = false) => ?_)
        refine And.intro (show 0 ≤ (i : Int) by omega) ?_
        repeat first | refine And.intro rfl ?_ | refine Or.inl (And.intro rfl ?_) | refine Or.inr (And.intro rfl ?_) | refine And.intro (fun (_ : true = true) => ?_) (fun (h : true = false) => Bool.noConfusion h) | refine And.intro (fun (h : false = true) => Bool.noConfusion h) (fun (_ : false = false) => ?_)
        refine And.intro (show (2 : Int) ≠ 0 by decide) ?_
        repeat first | refine And.intro rfl ?_ | refine Or.inl (And.intro rfl ?_) | refine Or.inr (And.intro rfl ?_) | refine And.intro (fun (_ : true = true) => ?_) (fun (h : true = false) => Bool.noConfusion h) | refine And.intro (fun (h : false = true) => Bool.noConfusion h) (fun (_ : false = false) => ?_)
        refine And.intro (show 0 ≤ IntKind.i64.wrap ((i : Int) + 1) by rw [hi1]; omega) ?_
        repeat first | refine And.intro rfl ?_ | refine Or.inl (And.intro rfl ?_) | refine Or.inr (And.intro rfl ?_) | refine And.intro (fun (_ : true = true) => ?_) (fun (h : true = false) => Bool.noConfusion h) | refine And.intro (fun (h : false = true) => Bool.noConfusion h) (fun (_ : false = false) => ?_)
        refine And.intro (show (2 : Int) ≠ 0 by decide) ?_
        repeat first | refine And.intro rfl ?_ | refine Or.inl (And.intro rfl ?_) | refine Or.inr (And.intro rfl ?_) | refine And.intro (fun (_ : true = true) => ?_) (fun (h : true = false) => Bool.noConfusion h) | refine And.intro (fun (h : false = true) => Bool.noConfusion h) (fun (_ : false = false) => ?_)
        refine And.intro (show (0 ≤ IntKind.u32.wrap (IntKind.u64.wrap _) ∧ IntKind.u32.wrap (IntKind.u64.wrap _) < 4294967296) ∧ True from ⟨by rw [eT]; omega, trivial⟩) ?_
        rw [eT]
        repeat first | refine And.intro rfl ?_ | refine Or.inl (And.intro rfl ?_) | refine Or.inr (And.intro rfl ?_) | refine And.intro (fun (_ : true = true) => ?_) (fun (h : true = false) => Bool.noConfusion h) | refine And.intro (fun (h : false = true) => Bool.noConfusion h) (fun (_ : false = false) => ?_)
        refine And.intro (show out.length + 1 ≤ 1000000 by omega) ?_
        repeat first | refine And.intro rfl ?_ | refine Or.inl (And.intro rfl ?_) | refine Or.inr (And.intro rfl ?_) | refine And.intro (fun (_ : true = true) => ?_) (fun (h : true = false) => Bool.noConfusion h) | refine And.intro (fun (h : false = true) => Bool.noConfusion h) (fun (_ : false = false) => ?_)
        refine Exists.intro ⟨(i + 1, out ++ [T]), (show i + 1 ≤ _ by omega), hlo.append (Lim.cons hlt Lim.nil), (show (out ++ [T]).length = i + 1 by simp [hol]), hstep⟩ (And.intro (show l.length - (i + 1) < l.length - i by omega) ?_)
        repeat first | exact trivial | refine And.intro rfl ?_ | refine And.intro trivial ?_ | refine And.intro (And.intro rfl trivial) ?_ | refine And.intro (And.intro rfl (And.intro rfl trivial)) ?_
        exact And.intro (avI hi1) trivial
      · have hi' : ¬ (i : Int) < (l.length : Int) := of_decide_eq_false hc
        have hz : l.getD i 0 = 0 := getD_end _ _ (by omega)
        rw [hz, List.take_of_length_le (by omega)] at hinv
        repeat first | refine And.intro rfl ?_ | refine Or.inl (And.intro rfl ?_) | refine Or.inr (And.intro rfl ?_) | refine And.intro (fun (_ : true = true) => ?_) (fun (h : true = false) => Bool.noConfusion h) | refine And.intro (fun (h : false = true) => Bool.noConfusion h) (fun (_ : false = false) => ?_)
        refine And.intro (show out.length ≤ 1000000 by omega) ?_
        refine resN (congrArg dg ?_)
        show nv out = nv l / 2
        simp only [Nat.zero_mod, Nat.mul_zero, Nat.add_zero] at hinv
        omega
  · cases h

end Go.Gm

/-
  The reference's natural numbers, part D: DivMod and Gcd. Plain theorems; no condition.
-/
namespace Go.Gm
open Go.Proofs

def TR2 : Table := [(74, sNorm), (99, sSub), (97, sBits), (98, sShift), (100, sHalf)]
theorem TR2_ok : TabOk TR2 := TabOk.cons ok_rNorm (TabOk.cons ok_rSub (TabOk.cons ok_Bits (TabOk.cons ok_Shift (TabOk.cons ok_Half TabOk.nil))))

theorem shl1 (k : Nat) (hk : k < 32) : IntKind.u32.wrap (1 * 2 ^ min (IntKind.u64.wrap ((k : Nat) : Int)).toNat IntKind.u32.bits) = ((2 ^ k : Nat) : Int) ∧ 2 ^ k ≤ 2147483648 := by
  have h1 : (2 : Nat) ^ k ≤ 2 ^ 31 := Nat.pow_le_pow_right (by decide) (by omega)
  have h1 : (2 : Nat) ^ k ≤ 2147483648 := h1
  rw [wU (x := ((k : Nat) : Int)) (by omega) (by omega), Int.toNat_natCast, Nat.min_eq_left (show k ≤ IntKind.u32.bits by show k ≤ 32; omega), Int.one_mul, wU32]
  have e : (2 : Int) ^ k = ((2 ^ k : Nat) : Int) := by push_cast; rfl
  rw [e]
  generalize 2 ^ k = w at h1 ⊢
  exact ⟨by omega, h1⟩

theorem add32 {a b : Nat} (h : a + b < 4294967296) : IntKind.u32.wrap ((a : Int) + (b : Int)) = ((a + b : Nat) : Int) := by
  rw [wU32]
  omega

/-- The shifted divisor has as many bits as the dividend. -/
theorem blen_shl {y : Nat} (hy : 0 < y) (n : Nat) : blen (y * 2 ^ n) = blen y + n := by
  obtain ⟨m, e, h1, h2⟩ := blen_pos hy
  rw [e]
  have h3 : 2 ^ (m + n) ≤ y * 2 ^ n := by rw [Nat.pow_add]; exact Nat.mul_le_mul_right _ h1
  have h4 : y * 2 ^ n < 2 ^ (m + n + 1) := by
    rw [show m + n + 1 = (m + 1) + n by omega, Nat.pow_add]
    exact Nat.mul_lt_mul_of_pos_right h2 (Nat.pos_of_ne_zero (by simp))
  rw [blen_of h3 h4]
  omega
theorem blen_mono {a b : Nat} (h : a ≤ b) : blen a ≤ blen b := by
  rcases Nat.eq_zero_or_pos a with e | e
  · subst e; exact Nat.zero_le _
  · obtain ⟨m, ea, h1, _⟩ := blen_pos e
    obtain ⟨k, eb, _, h4⟩ := blen_pos (show 0 < b by omega)
    rw [ea, eb]
    have := (Nat.pow_lt_pow_iff_right (a := 2) (by decide)).1 (show 2 ^ m < 2 ^ (k + 1) by omega)
    omega

set_option maxHeartbeats 2000000 in
theorem ok_rDivMod : Ok1 77 sDivMod := by
  refine ok_of TR2_ok Tryz.func77 rfl (by kernel_rfl) ?_
  intro xs pre res h hp hlim
  unfold sDivMod at h
  split at h
  · rename_i l l'
    cases h
    obtain ⟨hl, hl', _⟩ := hlim
    have hl : Lim l := hl
    have hl' : Lim l' := hl'
    obtain ⟨p1, p2, _⟩ := hp
    have hd := dg_nv_len hl
    have hd' := dg_nv_len hl'
    obtain ⟨x, hx⟩ : ∃ x, x = nv l := ⟨_, rfl⟩
    obtain ⟨y, hy⟩ : ∃ y, y = nv l' := ⟨_, rfl⟩
    rw [← hx] at hd
    rw [← hy] at hd'
    rw [← hx, ← hy]
    have bx := blen_dg_le (Nat.le_refl (dg x).length)
    have by_ := blen_dg_le (Nat.le_refl (dg y).length)
    refine And.intro (Nat.le_of_ble_eq_true rfl) ?_
    repeat first | refine And.intro rfl ?_ | refine Or.inl (And.intro rfl ?_) | refine Or.inr (And.intro rfl ?_) | refine And.intro (fun (_ : true = true) => ?_) (fun (h : true = false) => Bool.noConfusion h) | refine And.intro (fun (h : false = true) => Bool.noConfusion h) (fun (_ : false = false) => ?_)
    refine And.intro (show l'.length ≤ 100000 by omega) ?_
    rw [← hy]
    repeat first | refine And.intro rfl ?_ | refine Or.inl (And.intro rfl ?_) | refine Or.inr (And.intro rfl ?_) | refine And.intro (fun (_ : true = true) => ?_) (fun (h : true = false) => Bool.noConfusion h) | refine And.intro (fun (h : false = true) => Bool.noConfusion h) (fun (_ : false = false) => ?_)
    refine And.intro (fun hc => ?_) (fun hc => ?_)
    · have hz : y = 0 := by
        have : (((blen y : Nat) : Int) == 0) = true := hc
        exact blen_zero.1 (by have := eq_of_beq this; omega)
      repeat first | refine And.intro rfl ?_ | refine Or.inl (And.intro rfl ?_) | refine Or.inr (And.intro rfl ?_) | refine And.intro (fun (_ : true = true) => ?_) (fun (h : true = false) => Bool.noConfusion h) | refine And.intro (fun (h : false = true) => Bool.noConfusion h) (fun (_ : false = false) => ?_)
      exact resD (by rw [hz, Nat.div_zero, dg_zero]) (by rw [hz, rem0, if_pos rfl, dg_zero]) (by rw [hz]; rfl)
    · have hy0 : 0 < y := by
        rcases Nat.eq_zero_or_pos y with h | h
        · rw [h] at hc; cases hc
        · exact h
      have hrem : rem0 x y = x % y := if_neg (by omega)
      repeat first | refine And.intro rfl ?_ | refine Or.inl (And.intro rfl ?_) | refine Or.inr (And.intro rfl ?_) | refine And.intro (fun (_ : true = true) => ?_) (fun (h : true = false) => Bool.noConfusion h) | refine And.intro (fun (h : false = true) => Bool.noConfusion h) (fun (_ : false = false) => ?_)
      refine And.intro (show l.length ≤ 1000000 by omega) ?_
      rw [← hx]
      repeat first | refine And.intro rfl ?_ | refine Or.inl (And.intro rfl ?_) | refine Or.inr (And.intro rfl ?_) | refine And.intro (fun (_ : true = true) => ?_) (fun (h : true = false) => Bool.noConfusion h) | refine And.intro (fun (h : false = true) => Bool.noConfusion h) (fun (_ : false = false) => ?_)
      refine And.intro (show (dg x).length ≤ 100000 by omega) ?_
      rw [nv_dg]
      repeat first | refine And.intro rfl ?_ | refine Or.inl (And.intro rfl ?_) | refine Or.inr (And.intro rfl ?_) | refine And.intro (fun (_ : true = true) => ?_) (fun (h : true = false) => Bool.noConfusion h) | refine And.intro (fun (h : false = true) => Bool.noConfusion h) (fun (_ : false = false) => ?_)
      refine And.intro (show l'.length ≤ 100000 by omega) ?_
      rw [← hy]
      have hw : IntKind.i64.wrap (((blen x : Nat) : Int) - ((blen y : Nat) : Int)) = ((blen x : Nat) : Int) - ((blen y : Nat) : Int) := wI (by omega) (by omega)
      repeat first | refine And.intro rfl ?_ | refine Or.inl (And.intro rfl ?_) | refine Or.inr (And.intro rfl ?_) | refine And.intro (fun (_ : true = true) => ?_) (fun (h : true = false) => Bool.noConfusion h) | refine And.intro (fun (h : false = true) => Bool.noConfusion h) (fun (_ : false = false) => ?_)
      rw [hw]
      refine And.intro (fun hc2 => ?_) (fun hc2 => ?_)
      · have hlt : ((blen x : Nat) : Int) - ((blen y : Nat) : Int) < 0 := of_decide_eq_true hc2
        have hxy := div_less (x := x) (y := y) (by omega)
        repeat first | refine And.intro rfl ?_ | refine Or.inl (And.intro rfl ?_) | refine Or.inr (And.intro rfl ?_) | refine And.intro (fun (_ : true = true) => ?_) (fun (h : true = false) => Bool.noConfusion h) | refine And.intro (fun (h : false = true) => Bool.noConfusion h) (fun (_ : false = false) => ?_)
        exact resD (by rw [Nat.div_eq_of_lt hxy, dg_zero]) (by rw [hrem, Nat.mod_eq_of_lt hxy]) (by simp; exact hy0)
      · have hge : ¬ ((blen x : Nat) : Int) - ((blen y : Nat) : Int) < 0 := of_decide_eq_false hc2
        obtain ⟨n, hn⟩ : ∃ n : Nat, n = blen x - blen y := ⟨_, rfl⟩
        have en : ((blen x : Nat) : Int) - ((blen y : Nat) : Int) = ((n : Nat) : Int) := by omega
        have hstart := div_start (x := x) hy0 (show blen x = n + blen y by omega)
        have hnb : n ≤ 3200000 := by omega
        have e32 : ∀ k : Nat, Int.tdiv ((k : Nat) : Int) 32 = ((k / 32 : Nat) : Int) := fun k => (Int.ofNat_tdiv k 32).symm
        have m32 : ∀ k : Nat, Int.tmod ((k : Nat) : Int) 32 = ((k % 32 : Nat) : Int) := fun k => (Int.ofNat_tmod k 32).symm
        have w32 : ∀ k : Nat, k ≤ 3200000 → IntKind.i64.wrap ((k / 32 : Nat) : Int) = ((k / 32 : Nat) : Int) := fun k hk => wI (by omega) (by omega)
        have w33 : IntKind.i64.wrap (((n / 32 : Nat) : Int) + 1) = ((n / 32 + 1 : Nat) : Int) := by rw [wI (by omega) (by omega)]; omega
        have hpart : ∀ m, m ≤ n + 1 → (dg (y * 2 ^ m / 2)).length ≤ 100000 := by
          intro m hm
          have h1 : y * 2 ^ m / 2 ≤ y * 2 ^ n := by
            rcases Nat.eq_zero_or_pos m with h0 | h0
            · subst h0
              have : y * 2 ^ 0 ≤ y * 2 ^ n := Nat.mul_le_mul_left _ (Nat.pow_le_pow_right (by decide) (by omega))
              omega
            · obtain ⟨j, rfl⟩ : ∃ j, m = j + 1 := ⟨m - 1, by omega⟩
              rw [half_pow]
              exact Nat.mul_le_mul_left _ (Nat.pow_le_pow_right (by decide) (by omega))
          have h2 := blen_mono h1
          rw [blen_shl hy0] at h2
          have := len_blen (a := y * 2 ^ m / 2) (b := x) (by omega)
          omega
        have hpw : 2 ^ (n + 1) ≤ B ^ (n / 32 + 1) := by rw [← pow32]; exact Nat.pow_le_pow_right (by decide) (by omega)
        rw [en]
        repeat first | refine And.intro rfl ?_ | refine Or.inl (And.intro rfl ?_) | refine Or.inr (And.intro rfl ?_) | refine And.intro (fun (_ : true = true) => ?_) (fun (h : true = false) => Bool.noConfusion h) | refine And.intro (fun (h : false = true) => Bool.noConfusion h) (fun (_ : false = false) => ?_)
        refine And.intro (show (32 : Int) ≠ 0 by decide) ?_
        rw [e32, w32 n hnb]
        repeat first | refine And.intro rfl ?_ | refine Or.inl (And.intro rfl ?_) | refine Or.inr (And.intro rfl ?_) | refine And.intro (fun (_ : true = true) => ?_) (fun (h : true = false) => Bool.noConfusion h) | refine And.intro (fun (h : false = true) => Bool.noConfusion h) (fun (_ : false = false) => ?_)
        refine And.intro (show 0 ≤ IntKind.i64.wrap (((n / 32 : Nat) : Int) + 1) ∧ IntKind.i64.wrap (((n / 32 : Nat) : Int) + 1) ≤ IntKind.i64.wrap (((n / 32 : Nat) : Int) + 1) ∧ IntKind.i64.wrap (((n / 32 : Nat) : Int) + 1) ≤ 1000000 by rw [w33]; omega) ?_
        rw [w33]
        repeat first | refine And.intro rfl ?_ | refine Or.inl (And.intro rfl ?_) | refine Or.inr (And.intro rfl ?_) | refine And.intro (fun (_ : true = true) => ?_) (fun (h : true = false) => Bool.noConfusion h) | refine And.intro (fun (h : false = true) => Bool.noConfusion h) (fun (_ : false = false) => ?_)
        refine And.intro (show l'.length ≤ 100000 ∧ 0 ≤ ((n : Nat) : Int) ∧ ((n : Nat) : Int) ≤ 3200000 by omega) ?_
        rw [← hy, Int.toNat_natCast]
        repeat first | refine And.intro rfl ?_ | refine Or.inl (And.intro rfl ?_) | refine Or.inr (And.intro rfl ?_) | refine And.intro (fun (_ : true = true) => ?_) (fun (h : true = false) => Bool.noConfusion h) | refine And.intro (fun (h : false = true) => Bool.noConfusion h) (fun (_ : false = false) => ?_)
        refine Exists.intro {s : Nat × Nat × Nat // s.1 ≤ n + 1 ∧ x = s.2.1 * y + s.2.2 ∧ s.2.2 < y * 2 ^ s.1 ∧ 2 ^ s.1 ∣ s.2.1 ∧ s.2.1 + 2 ^ s.1 ≤ 2 ^ (n + 1)} (Exists.intro (fun s => ⟨[(7, .one (.nat (dg s.1.2.2))), (9, .own 0), (10, .one (.nat (dg (y * 2 ^ s.1.1 / 2)))), (11, .val (.int .i64 ((s.1.1 : Int) - 1)))], ⟨[], [.n 74 (lk (n / 32 + 1) s.1.2.1)]⟩⟩) (Exists.intro (fun s => s.1.1) (Exists.intro ⟨(n + 1, 0, x), Nat.le_refl _, (by simp), hstart, ⟨0, by simp⟩, (by simp)⟩ (And.intro ?_ ?_))))
        · repeat first | exact trivial | refine And.intro rfl ?_ | refine And.intro trivial ?_ | refine And.intro (And.intro rfl trivial) ?_ | refine And.intro (And.intro rfl (And.intro rfl trivial)) ?_
          refine And.intro (And.intro (rwN ?_) trivial) ?_
          · show List.replicate ((n / 32 + 1 : Nat) : Int).toNat 0 = lk (n / 32 + 1) 0
            rw [Int.toNat_natCast]
            exact lk_of (Lim.replicate _) (by simp) (nv_replicate _)
          · repeat first | exact trivial | refine And.intro rfl ?_ | refine And.intro trivial ?_ | refine And.intro (And.intro rfl trivial) ?_ | refine And.intro (And.intro rfl (And.intro rfl trivial)) ?_
            refine And.intro (avN (congrArg dg ?_)) ?_
            · show y * 2 ^ n = y * 2 ^ (n + 1) / 2
              rw [half_pow]
            · repeat first | exact trivial | refine And.intro rfl ?_ | refine And.intro trivial ?_ | refine And.intro (And.intro rfl trivial) ?_ | refine And.intro (And.intro rfl (And.intro rfl trivial)) ?_
              exact And.intro (avI (show ((n : Nat) : Int) = ((n + 1 : Nat) : Int) - 1 by omega)) trivial
        · rintro ⟨⟨m, V, r⟩, hm, hxv, hr, hdv, hV⟩
          simp only at hm hxv hr hdv hV
          have hrx : (dg r).length ≤ 100000 := by
            have : r ≤ x := by rw [hxv]; omega
            have := dg_len_mono this
            omega
          have hVB : V < B ^ (n / 32 + 1) := by
            have : 0 < 2 ^ m := Nat.pos_of_ne_zero (by simp)
            omega
          repeat first | refine And.intro rfl ?_ | refine Or.inl (And.intro rfl ?_) | refine Or.inr (And.intro rfl ?_) | refine And.intro (fun (_ : true = true) => ?_) (fun (h : true = false) => Bool.noConfusion h) | refine And.intro (fun (h : false = true) => Bool.noConfusion h) (fun (_ : false = false) => ?_)
          refine And.intro (fun hc => ?_) (fun hc => ?_)
          · have hm0 : 0 < m := by have : (m : Int) - 1 ≥ 0 := of_decide_eq_true hc; omega
            obtain ⟨k, rfl⟩ : ∃ k, m = k + 1 := ⟨m - 1, by omega⟩
            have ek : ((k + 1 : Nat) : Int) - 1 = ((k : Nat) : Int) := by omega
            have wk : IntKind.i64.wrap (((k : Nat) : Int) - 1) = ((k : Nat) : Int) - 1 := wI (by omega) (by omega)
            have hdk : 2 ^ k ∣ V := Nat.dvd_trans (Nat.pow_dvd_pow 2 (by omega)) hdv
            have hp2 : (2 : Nat) ^ (k + 1) = 2 ^ k + 2 ^ k := by rw [Nat.pow_succ]; omega
            have hy2 : y * 2 ^ (k + 1) = y * 2 ^ k + y * 2 ^ k := by rw [hp2, Nat.mul_add]
            have hk32 : k % 32 < 32 := Nat.mod_lt _ (by decide)
            obtain ⟨c1, c2⟩ := shl1 (k % 32) hk32
            obtain ⟨b1, b2⟩ := bit_set (m := n / 32 + 1) (V := V) (k := k) hVB hdv (by omega)
            have hpk := hpart (k + 1) hm
            have hpk' : (dg (y * 2 ^ k)).length ≤ 100000 := by rw [half_pow] at hpk; exact hpk
            have hrowl : (lk (n / 32 + 1) V).length = n / 32 + 1 := lk_len _ _
            repeat first | refine And.intro rfl ?_ | refine Or.inl (And.intro rfl ?_) | refine Or.inr (And.intro rfl ?_) | refine And.intro (fun (_ : true = true) => ?_) (fun (h : true = false) => Bool.noConfusion h) | refine And.intro (fun (h : false = true) => Bool.noConfusion h) (fun (_ : false = false) => ?_)
            refine And.intro (show (dg r).length ≤ 100000 ∧ (dg (y * 2 ^ (k + 1) / 2)).length ≤ 100000 from ⟨hrx, hpk⟩) ?_
            rw [nv_dg, nv_dg, half_pow]
            repeat first | refine And.intro rfl ?_ | refine Or.inl (And.intro rfl ?_) | refine Or.inr (And.intro rfl ?_) | refine And.intro (fun (_ : true = true) => ?_) (fun (h : true = false) => Bool.noConfusion h) | refine And.intro (fun (h : false = true) => Bool.noConfusion h) (fun (_ : false = false) => ?_)
            refine And.intro (fun hs => ?_) (fun hs => ?_)
            · have hs : y * 2 ^ k ≤ r := of_decide_eq_true hs
              obtain ⟨d1, d2⟩ := div_yes hxv hs hr
              repeat first | refine And.intro rfl ?_ | refine Or.inl (And.intro rfl ?_) | refine Or.inr (And.intro rfl ?_) | refine And.intro (fun (_ : true = true) => ?_) (fun (h : true = false) => Bool.noConfusion h) | refine And.intro (fun (h : false = true) => Bool.noConfusion h) (fun (_ : false = false) => ?_)
              refine And.intro (show (32 : Int) ≠ 0 by decide) ?_
              rw [ek, e32, w32 k (by omega)]
              repeat first | refine And.intro rfl ?_ | refine Or.inl (And.intro rfl ?_) | refine Or.inr (And.intro rfl ?_) | refine And.intro (fun (_ : true = true) => ?_) (fun (h : true = false) => Bool.noConfusion h) | refine And.intro (fun (h : false = true) => Bool.noConfusion h) (fun (_ : false = false) => ?_)
              refine And.intro (show (32 : Int) ≠ 0 by decide) ?_
              try rw [e32, w32 k (by omega)]
              repeat first | refine And.intro rfl ?_ | refine Or.inl (And.intro rfl ?_) | refine Or.inr (And.intro rfl ?_) | refine And.intro (fun (_ : true = true) => ?_) (fun (h : true = false) => Bool.noConfusion h) | refine And.intro (fun (h : false = true) => Bool.noConfusion h) (fun (_ : false = false) => ?_)
              refine And.intro (show 0 ≤ ((k / 32 : Nat) : Int) ∧ ((k / 32 : Nat) : Int) < (((lk (n / 32 + 1) V).length : Nat) : Int) by rw [hrowl]; omega) ?_
              repeat first | refine And.intro rfl ?_ | refine Or.inl (And.intro rfl ?_) | refine Or.inr (And.intro rfl ?_) | refine And.intro (fun (_ : true = true) => ?_) (fun (h : true = false) => Bool.noConfusion h) | refine And.intro (fun (h : false = true) => Bool.noConfusion h) (fun (_ : false = false) => ?_)
              refine And.intro (show ((k / 32 : Nat) : Int).toNat < (lk (n / 32 + 1) V).length by rw [hrowl]; omega) ?_
              rw [Int.toNat_natCast]
              repeat first | refine And.intro rfl ?_ | refine Or.inl (And.intro rfl ?_) | refine Or.inr (And.intro rfl ?_) | refine And.intro (fun (_ : true = true) => ?_) (fun (h : true = false) => Bool.noConfusion h) | refine And.intro (fun (h : false = true) => Bool.noConfusion h) (fun (_ : false = false) => ?_)
              refine And.intro (show (32 : Int) ≠ 0 by decide) ?_
              rw [m32]
              repeat first | refine And.intro rfl ?_ | refine Or.inl (And.intro rfl ?_) | refine Or.inr (And.intro rfl ?_) | refine And.intro (fun (_ : true = true) => ?_) (fun (h : true = false) => Bool.noConfusion h) | refine And.intro (fun (h : false = true) => Bool.noConfusion h) (fun (_ : false = false) => ?_)
              refine And.intro (show 0 ≤ IntKind.u64.wrap ((k % 32 : Nat) : Int) by rw [wU (by omega) (by omega)]; omega) ?_
              rw [c1]
              repeat first | refine And.intro rfl ?_ | refine Or.inl (And.intro rfl ?_) | refine Or.inr (And.intro rfl ?_) | refine And.intro (fun (_ : true = true) => ?_) (fun (h : true = false) => Bool.noConfusion h) | refine And.intro (fun (h : false = true) => Bool.noConfusion h) (fun (_ : false = false) => ?_)
              have ea : IntKind.u32.wrap ((((lk (n / 32 + 1) V).getD (k / 32) 0 : Nat) : Int) + ((2 ^ (k % 32) : Nat) : Int)) = (((lk (n / 32 + 1) V).getD (k / 32) 0 + 2 ^ (k % 32) : Nat) : Int) := by
                exact add32 (by rw [B_eq] at b1; exact b1)
              refine And.intro (show 0 ≤ ((k / 32 : Nat) : Int) ∧ ((k / 32 : Nat) : Int) < (((lk (n / 32 + 1) V).length : Nat) : Int) by rw [hrowl]; omega) ?_
              rw [ea]
              repeat first | refine And.intro rfl ?_ | refine Or.inl (And.intro rfl ?_) | refine Or.inr (And.intro rfl ?_) | refine And.intro (fun (_ : true = true) => ?_) (fun (h : true = false) => Bool.noConfusion h) | refine And.intro (fun (h : false = true) => Bool.noConfusion h) (fun (_ : false = false) => ?_)
              refine And.intro (show ((k / 32 : Nat) : Int).toNat < (lk (n / 32 + 1) V).length ∧ 0 ≤ (((lk (n / 32 + 1) V).getD (k / 32) 0 + 2 ^ (k % 32) : Nat) : Int) ∧ (((lk (n / 32 + 1) V).getD (k / 32) 0 + 2 ^ (k % 32) : Nat) : Int) < 4294967296 from ⟨by rw [hrowl]; omega, Int.natCast_nonneg _, Int.ofNat_lt.2 b1⟩) ?_
              repeat first | refine And.intro rfl ?_ | refine Or.inl (And.intro rfl ?_) | refine Or.inr (And.intro rfl ?_) | refine And.intro (fun (_ : true = true) => ?_) (fun (h : true = false) => Bool.noConfusion h) | refine And.intro (fun (h : false = true) => Bool.noConfusion h) (fun (_ : false = false) => ?_)
              refine And.intro hpk' ?_
              rw [nv_dg]
              repeat first | refine And.intro rfl ?_ | refine Or.inl (And.intro rfl ?_) | refine Or.inr (And.intro rfl ?_) | refine And.intro (fun (_ : true = true) => ?_) (fun (h : true = false) => Bool.noConfusion h) | refine And.intro (fun (h : false = true) => Bool.noConfusion h) (fun (_ : false = false) => ?_)
              refine Exists.intro ⟨(k, V + 2 ^ k, r - y * 2 ^ k), (show k ≤ n + 1 by omega), d1, d2, (Nat.dvd_add hdk (Nat.dvd_refl _)), (show V + 2 ^ k + 2 ^ k ≤ 2 ^ (n + 1) by omega)⟩ (And.intro (show k < k + 1 by omega) ?_)
              repeat first | exact trivial | refine And.intro rfl ?_ | refine And.intro trivial ?_ | refine And.intro (And.intro rfl trivial) ?_ | refine And.intro (And.intro rfl (And.intro rfl trivial)) ?_
              refine And.intro (And.intro (rwN ?_) trivial) ?_
              · show (lk (n / 32 + 1) V).set ((k / 32 : Nat) : Int).toNat (((lk (n / 32 + 1) V).getD (k / 32) 0 + 2 ^ (k % 32) : Nat) : Int).toNat = lk (n / 32 + 1) (V + 2 ^ k)
                rw [Int.toNat_natCast, Int.toNat_natCast]
                exact b2
              · repeat first | exact trivial | refine And.intro rfl ?_ | refine And.intro trivial ?_ | refine And.intro (And.intro rfl trivial) ?_ | refine And.intro (And.intro rfl (And.intro rfl trivial)) ?_
                first | exact And.intro (avI wk) trivial | exact And.intro (avI (show IntKind.i64.wrap (((k + 1 : Nat) : Int) - 1 - 1) = ((k : Nat) : Int) - 1 by rw [ek, wk])) trivial
            · have hs : ¬ y * 2 ^ k ≤ r := of_decide_eq_false hs
              repeat first | refine And.intro rfl ?_ | refine Or.inl (And.intro rfl ?_) | refine Or.inr (And.intro rfl ?_) | refine And.intro (fun (_ : true = true) => ?_) (fun (h : true = false) => Bool.noConfusion h) | refine And.intro (fun (h : false = true) => Bool.noConfusion h) (fun (_ : false = false) => ?_)
              refine And.intro hpk' ?_
              rw [nv_dg]
              repeat first | refine And.intro rfl ?_ | refine Or.inl (And.intro rfl ?_) | refine Or.inr (And.intro rfl ?_) | refine And.intro (fun (_ : true = true) => ?_) (fun (h : true = false) => Bool.noConfusion h) | refine And.intro (fun (h : false = true) => Bool.noConfusion h) (fun (_ : false = false) => ?_)
              refine Exists.intro ⟨(k, V, r), (show k ≤ n + 1 by omega), hxv, (show r < y * 2 ^ k by omega), hdk, (show V + 2 ^ k ≤ 2 ^ (n + 1) by omega)⟩ (And.intro (show k < k + 1 by omega) ?_)
              repeat first | exact trivial | refine And.intro rfl ?_ | refine And.intro trivial ?_ | refine And.intro (And.intro rfl trivial) ?_ | refine And.intro (And.intro rfl (And.intro rfl trivial)) ?_
              first | exact And.intro (avI wk) trivial | exact And.intro (avI (show IntKind.i64.wrap (((k + 1 : Nat) : Int) - 1 - 1) = ((k : Nat) : Int) - 1 by rw [ek, wk])) trivial
          · have hm0 : m = 0 := by have : ¬ (m : Int) - 1 ≥ 0 := of_decide_eq_false hc; omega
            subst hm0
            obtain ⟨f1, f2⟩ := div_done hxv hr
            repeat first | refine And.intro rfl ?_ | refine Or.inl (And.intro rfl ?_) | refine Or.inr (And.intro rfl ?_) | refine And.intro (fun (_ : true = true) => ?_) (fun (h : true = false) => Bool.noConfusion h) | refine And.intro (fun (h : false = true) => Bool.noConfusion h) (fun (_ : false = false) => ?_)
            refine And.intro (show (lk (n / 32 + 1) V).length ≤ 1000000 by rw [lk_len]; omega) ?_
            repeat first | refine And.intro rfl ?_ | refine Or.inl (And.intro rfl ?_) | refine Or.inr (And.intro rfl ?_) | refine And.intro (fun (_ : true = true) => ?_) (fun (h : true = false) => Bool.noConfusion h) | refine And.intro (fun (h : false = true) => Bool.noConfusion h) (fun (_ : false = false) => ?_)
            refine resD (congrArg dg ?_) (congrArg dg ?_) (by simp; exact hy0)
            · show nv (lk (n / 32 + 1) V) = x / y
              rw [nv_lk _ _ hVB, f1]
            · show r = rem0 x y
              rw [hrem, f2]
  · cases h

def TR3 : Table := [(74, sNorm), (77, sDivMod)]
theorem TR3_ok : TabOk TR3 := TabOk.cons ok_rNorm (TabOk.cons ok_rDivMod TabOk.nil)

set_option maxHeartbeats 1000000 in
theorem ok_rGcd : Ok1 76 sGcd := by
  refine ok_of TR3_ok Tryz.func76 rfl (by kernel_rfl) ?_
  intro xs pre res h hp hlim
  unfold sGcd at h
  split at h
  · rename_i l l'
    cases h
    obtain ⟨hl, hl', _⟩ := hlim
    have hl : Lim l := hl
    have hl' : Lim l' := hl'
    have hd := dg_nv_len hl
    have hd' := dg_nv_len hl'
    obtain ⟨hp1, hp2, hp3⟩ := hp
    refine And.intro (Nat.le_of_ble_eq_true rfl) ?_
    repeat first | refine And.intro rfl ?_ | refine Or.inl (And.intro rfl ?_) | refine Or.inr (And.intro rfl ?_) | refine And.intro (fun (_ : true = true) => ?_) (fun (h : true = false) => Bool.noConfusion h) | refine And.intro (fun (h : false = true) => Bool.noConfusion h) (fun (_ : false = false) => ?_)
    refine And.intro (show l.length ≤ 1000000 by omega) ?_
    repeat first | refine And.intro rfl ?_ | refine Or.inl (And.intro rfl ?_) | refine Or.inr (And.intro rfl ?_) | refine And.intro (fun (_ : true = true) => ?_) (fun (h : true = false) => Bool.noConfusion h) | refine And.intro (fun (h : false = true) => Bool.noConfusion h) (fun (_ : false = false) => ?_)
    refine And.intro (show l'.length ≤ 1000000 by omega) ?_
    repeat first | refine And.intro rfl ?_ | refine Or.inl (And.intro rfl ?_) | refine Or.inr (And.intro rfl ?_) | refine And.intro (fun (_ : true = true) => ?_) (fun (h : true = false) => Bool.noConfusion h) | refine And.intro (fun (h : false = true) => Bool.noConfusion h) (fun (_ : false = false) => ?_)
    refine Exists.intro {s : Nat × Nat // (dg s.1).length ≤ 100000 ∧ (dg s.2).length ≤ 100000 ∧ Nat.gcd s.1 s.2 = Nat.gcd (nv l) (nv l')} (Exists.intro (fun s => ⟨[(5, .one (.nat (dg s.1.1))), (6, .one (.nat (dg s.1.2)))], ⟨[], []⟩⟩) (Exists.intro (fun s => s.1.2) (Exists.intro ⟨(nv l, nv l'), (show (dg (nv l)).length ≤ 100000 by omega), (show (dg (nv l')).length ≤ 100000 by omega), rfl⟩ (And.intro ?_ ?_))))
    · repeat first | exact trivial | refine And.intro rfl ?_ | refine And.intro trivial ?_ | refine And.intro (And.intro rfl trivial) ?_ | refine And.intro (And.intro rfl (And.intro rfl trivial)) ?_
    · rintro ⟨⟨x, y⟩, h1, h2, h4⟩
      simp only at h1 h2 h4
      repeat first | refine And.intro rfl ?_ | refine Or.inl (And.intro rfl ?_) | refine Or.inr (And.intro rfl ?_) | refine And.intro (fun (_ : true = true) => ?_) (fun (h : true = false) => Bool.noConfusion h) | refine And.intro (fun (h : false = true) => Bool.noConfusion h) (fun (_ : false = false) => ?_)
      refine And.intro (fun hc => ?_) (fun hc => ?_)
      · have hy : 0 < y := by
          rcases Nat.eq_zero_or_pos y with h | h
          · subst h; cases hc
          · exact h
        have hr : rem0 (nv (dg x)) (nv (dg y)) = x % y := by rw [nv_dg, nv_dg, rem0, if_neg (by omega)]
        have hm := Nat.mod_lt x hy
        repeat first | refine And.intro rfl ?_ | refine Or.inl (And.intro rfl ?_) | refine Or.inr (And.intro rfl ?_) | refine And.intro (fun (_ : true = true) => ?_) (fun (h : true = false) => Bool.noConfusion h) | refine And.intro (fun (h : false = true) => Bool.noConfusion h) (fun (_ : false = false) => ?_)
        refine And.intro (show (dg x).length ≤ 100000 ∧ (dg y).length ≤ 100000 ∧ DivFit (nv (dg y)) from ⟨h1, h2, trivial⟩) ?_
        repeat first | refine And.intro rfl ?_ | refine Or.inl (And.intro rfl ?_) | refine Or.inr (And.intro rfl ?_) | refine And.intro (fun (_ : true = true) => ?_) (fun (h : true = false) => Bool.noConfusion h) | refine And.intro (fun (h : false = true) => Bool.noConfusion h) (fun (_ : false = false) => ?_)
        refine Exists.intro ⟨(y, x % y), h2, (show (dg (x % y)).length ≤ 100000 from Nat.le_trans (dg_len_mono (by omega)) h2), (show Nat.gcd y (x % y) = _ by rw [← h4, Nat.gcd_comm x y, Nat.gcd_rec y x, Nat.gcd_comm])⟩ (And.intro (show x % y < y from hm) ?_)
        repeat first | exact trivial | refine And.intro rfl ?_ | refine And.intro trivial ?_ | refine And.intro (And.intro rfl trivial) ?_ | refine And.intro (And.intro rfl (And.intro rfl trivial)) ?_
        exact And.intro (avN (congrArg dg hr)) trivial
      · have hy : y = 0 := by
          rcases Nat.eq_zero_or_pos y with h | h
          · exact h
          · have := dg_len_pos h
            have : ¬ ((dg y).length : Int) > 0 := of_decide_eq_false hc
            omega
        subst hy
        repeat first | refine And.intro rfl ?_ | refine Or.inl (And.intro rfl ?_) | refine Or.inr (And.intro rfl ?_) | refine And.intro (fun (_ : true = true) => ?_) (fun (h : true = false) => Bool.noConfusion h) | refine And.intro (fun (h : false = true) => Bool.noConfusion h) (fun (_ : false = false) => ?_)
        exact resN (congrArg dg (show x = Nat.gcd (nv l) (nv l') by rw [Nat.gcd_zero_right] at h4; exact h4))
  · cases h

end Go.Gm

/-
  The integers of the reference. Plain theorems; no condition.
-/
namespace Go.Gm
open Go.Proofs

def TJ0 : Table := [(74, sNorm), (87, sOf), (103, sAdd), (99, sSub), (52, sMul), (84, sCmp)]
theorem TJ0_ok : TabOk TJ0 := TabOk.cons ok_rNorm (TabOk.cons ok_rOf (TabOk.cons ok_rAdd (TabOk.cons ok_rSub (TabOk.cons ok_rMul (TabOk.cons ok_rCmp TabOk.nil)))))


theorem ok_jSigned : Ok1 85 sSigned := by
  refine ok_of TJ0_ok Tryz.func85 rfl (by kernel_rfl) ?_
  intro xs pre res h hp hlim
  unfold sSigned at h
  split at h
  · rename_i s l
    cases h
    refine And.intro (Nat.le_of_ble_eq_true rfl) ?_
    cases s
    · repeat first | refine And.intro rfl ?_ | refine Or.inl (And.intro rfl ?_) | refine Or.inr (And.intro rfl ?_) | refine And.intro (fun (_ : true = true) => ?_) (fun (h : true = false) => Bool.noConfusion h) | refine And.intro (fun (h : false = true) => Bool.noConfusion h) (fun (_ : false = false) => ?_)
      refine And.intro (show l.length ≤ 1000000 by omega) ?_
      repeat first | refine And.intro rfl ?_ | refine Or.inl (And.intro rfl ?_) | refine Or.inr (And.intro rfl ?_) | refine And.intro (fun (_ : true = true) => ?_) (fun (h : true = false) => Bool.noConfusion h) | refine And.intro (fun (h : false = true) => Bool.noConfusion h) (fun (_ : false = false) => ?_)
      exact resCI (show false = decide (sg false (nv l) < 0) by rw [sg_false]; simp) (congrArg dg (show nv l = (sg false (nv l)).natAbs by rw [sg_abs]))
    · repeat first | refine And.intro rfl ?_ | refine Or.inl (And.intro rfl ?_) | refine Or.inr (And.intro rfl ?_) | refine And.intro (fun (_ : true = true) => ?_) (fun (h : true = false) => Bool.noConfusion h) | refine And.intro (fun (h : false = true) => Bool.noConfusion h) (fun (_ : false = false) => ?_)
      refine And.intro (show l.length ≤ 1000000 by omega) ?_
      repeat first | refine And.intro rfl ?_ | refine Or.inl (And.intro rfl ?_) | refine Or.inr (And.intro rfl ?_) | refine And.intro (fun (_ : true = true) => ?_) (fun (h : true = false) => Bool.noConfusion h) | refine And.intro (fun (h : false = true) => Bool.noConfusion h) (fun (_ : false = false) => ?_)
      refine resCI ?_ (congrArg dg (show nv l = (sg true (nv l)).natAbs by rw [sg_abs]))
      show decide (((dg (nv l)).length : Int) > 0) = decide (sg true (nv l) < 0)
      rw [sg_true]
      rcases Nat.eq_zero_or_pos (nv l) with h | h
      · rw [h, dg_zero]; rfl
      · have := dg_len_pos h
        simp
        omega
  · cases h

def TJ1 : Table := (85, sSigned) :: TJ0
theorem TJ1_ok : TabOk TJ1 := TabOk.cons ok_jSigned TJ0_ok



theorem ok_jOf : Ok1 66 sIntOf := by
  refine ok_of TJ1_ok Tryz.func66 rfl (by kernel_rfl) ?_
  intro xs pre res h hp hlim
  unfold sIntOf at h
  split at h
  · rename_i n
    cases h
    refine And.intro (Nat.le_of_ble_eq_true rfl) ?_
    repeat first | refine And.intro rfl ?_ | refine Or.inl (And.intro rfl ?_) | refine Or.inr (And.intro rfl ?_) | refine And.intro (fun (_ : true = true) => ?_) (fun (h : true = false) => Bool.noConfusion h) | refine And.intro (fun (h : false = true) => Bool.noConfusion h) (fun (_ : false = false) => ?_)
    refine And.intro (fun hc => ?_) (fun hc => ?_)
    · have hn : n < 0 := of_decide_eq_true hc
      have e1 : IntKind.i64.wrap (n + 1) = n + 1 := wI (by omega) (by omega)
      have e2 : IntKind.i64.wrap (0 - (n + 1)) = -(n + 1) := by rw [wI (by omega) (by omega)]; omega
      have e : IntKind.u64.wrap (IntKind.u64.wrap (IntKind.i64.wrap (0 - IntKind.i64.wrap (n + 1))) + 1) = -n := by
        rw [e1, e2]
        simp only [wU64]
        omega
      repeat first | refine And.intro rfl ?_ | refine Or.inl (And.intro rfl ?_) | refine Or.inr (And.intro rfl ?_) | refine And.intro (fun (_ : true = true) => ?_) (fun (h : true = false) => Bool.noConfusion h) | refine And.intro (fun (h : false = true) => Bool.noConfusion h) (fun (_ : false = false) => ?_)
      refine And.intro (show 0 ≤ IntKind.u64.wrap (IntKind.u64.wrap (IntKind.i64.wrap (0 - IntKind.i64.wrap (n + 1))) + 1) ∧ IntKind.u64.wrap (IntKind.u64.wrap (IntKind.i64.wrap (0 - IntKind.i64.wrap (n + 1))) + 1) < 18446744073709551616 by rw [e]; omega) ?_
      rw [e]
      repeat first | refine And.intro rfl ?_ | refine Or.inl (And.intro rfl ?_) | refine Or.inr (And.intro rfl ?_) | refine And.intro (fun (_ : true = true) => ?_) (fun (h : true = false) => Bool.noConfusion h) | refine And.intro (fun (h : false = true) => Bool.noConfusion h) (fun (_ : false = false) => ?_)
      exact resCI (decide_eq_true hn).symm (congrArg dg (show (-n).toNat = n.natAbs by omega))
    · have hn : ¬ n < 0 := of_decide_eq_false hc
      have e : IntKind.u64.wrap n = n := by simp only [wU64]; omega
      repeat first | refine And.intro rfl ?_ | refine Or.inl (And.intro rfl ?_) | refine Or.inr (And.intro rfl ?_) | refine And.intro (fun (_ : true = true) => ?_) (fun (h : true = false) => Bool.noConfusion h) | refine And.intro (fun (h : false = true) => Bool.noConfusion h) (fun (_ : false = false) => ?_)
      refine And.intro (show 0 ≤ IntKind.u64.wrap n ∧ IntKind.u64.wrap n < 18446744073709551616 by rw [e]; omega) ?_
      rw [e]
      repeat first | refine And.intro rfl ?_ | refine Or.inl (And.intro rfl ?_) | refine Or.inr (And.intro rfl ?_) | refine And.intro (fun (_ : true = true) => ?_) (fun (h : true = false) => Bool.noConfusion h) | refine And.intro (fun (h : false = true) => Bool.noConfusion h) (fun (_ : false = false) => ?_)
      exact resCI (decide_eq_false hn).symm (congrArg dg (show n.toNat = n.natAbs by omega))
  · cases h

theorem ok_jNorm : Ok1 78 sIntNorm := by
  refine ok_of TJ1_ok Tryz.func78 rfl (by kernel_rfl) ?_
  intro xs pre res h hp hlim
  unfold sIntNorm at h
  split at h
  · rename_i s l
    cases h
    refine And.intro (Nat.le_of_ble_eq_true rfl) ?_
    repeat first | refine And.intro rfl ?_ | refine Or.inl (And.intro rfl ?_) | refine Or.inr (And.intro rfl ?_) | refine And.intro (fun (_ : true = true) => ?_) (fun (h : true = false) => Bool.noConfusion h) | refine And.intro (fun (h : false = true) => Bool.noConfusion h) (fun (_ : false = false) => ?_)
    refine And.intro hp ?_
    repeat first | refine And.intro rfl ?_ | refine Or.inl (And.intro rfl ?_) | refine Or.inr (And.intro rfl ?_) | refine And.intro (fun (_ : true = true) => ?_) (fun (h : true = false) => Bool.noConfusion h) | refine And.intro (fun (h : false = true) => Bool.noConfusion h) (fun (_ : false = false) => ?_)
    rfl
  · cases h

theorem ok_jNeg : Ok1 101 sIntNeg := by
  refine ok_of TJ1_ok Tryz.func101 rfl (by kernel_rfl) ?_
  intro xs pre res h hp hlim
  unfold sIntNeg at h
  split at h
  · rename_i s l
    cases h
    refine And.intro (Nat.le_of_ble_eq_true rfl) ?_
    repeat first | refine And.intro rfl ?_ | refine Or.inl (And.intro rfl ?_) | refine Or.inr (And.intro rfl ?_) | refine And.intro (fun (_ : true = true) => ?_) (fun (h : true = false) => Bool.noConfusion h) | refine And.intro (fun (h : false = true) => Bool.noConfusion h) (fun (_ : false = false) => ?_)
    refine And.intro hp ?_
    repeat first | refine And.intro rfl ?_ | refine Or.inl (And.intro rfl ?_) | refine Or.inr (And.intro rfl ?_) | refine And.intro (fun (_ : true = true) => ?_) (fun (h : true = false) => Bool.noConfusion h) | refine And.intro (fun (h : false = true) => Bool.noConfusion h) (fun (_ : false = false) => ?_)
    exact resCI' (show sg (!s) (nv l) = -(sg s (nv l)) by cases s <;> simp [sg])
  · cases h


theorem ok_jMul : Ok1 62 sIntMul := by
  refine ok_of TJ1_ok Tryz.func62 rfl (by kernel_rfl) ?_
  intro xs pre res h hp hlim
  unfold sIntMul at h
  split at h
  · rename_i s l s' l'
    cases h
    have hl : Lim l := hlim.1.2.1
    have hl' : Lim l' := hlim.2.1.2.1
    refine And.intro (Nat.le_of_ble_eq_true rfl) ?_
    repeat first | refine And.intro rfl ?_ | refine Or.inl (And.intro rfl ?_) | refine Or.inr (And.intro rfl ?_) | refine And.intro (fun (_ : true = true) => ?_) (fun (h : true = false) => Bool.noConfusion h) | refine And.intro (fun (h : false = true) => Bool.noConfusion h) (fun (_ : false = false) => ?_)
    refine And.intro (show l.length ≤ 100000 ∧ l'.length ≤ 100000 by omega) ?_
    repeat first | refine And.intro rfl ?_ | refine Or.inl (And.intro rfl ?_) | refine Or.inr (And.intro rfl ?_) | refine And.intro (fun (_ : true = true) => ?_) (fun (h : true = false) => Bool.noConfusion h) | refine And.intro (fun (h : false = true) => Bool.noConfusion h) (fun (_ : false = false) => ?_)
    refine And.intro (show (dg (nv l * nv l')).length ≤ 100000 from Nat.le_trans (len_mul (len_of_lt hl hp.1) (len_of_lt hl' hp.2)) (by decide)) ?_
    repeat first | refine And.intro rfl ?_ | refine Or.inl (And.intro rfl ?_) | refine Or.inr (And.intro rfl ?_) | refine And.intro (fun (_ : true = true) => ?_) (fun (h : true = false) => Bool.noConfusion h) | refine And.intro (fun (h : false = true) => Bool.noConfusion h) (fun (_ : false = false) => ?_)
    refine resCI' ?_
    show sg (!(s == s')) (nv (dg (nv l * nv l'))) = sg s (nv l) * sg s' (nv l')
    rw [nv_dg]
    cases s <;> cases s' <;> simp [sg, Int.neg_mul, Int.mul_neg]
  · cases h

theorem ok_jAdd : Ok1 82 sIntAdd := by
  refine ok_of TJ1_ok Tryz.func82 rfl (by kernel_rfl) ?_
  intro xs pre res h hp hlim
  unfold sIntAdd at h
  split at h
  · rename_i s l s' l'
    cases h
    have hl : Lim l := hlim.1.2.1
    have hl' : Lim l' := hlim.2.1.2.1
    have b1 := len_of_lt hl hp.1
    have b2 := len_of_lt hl' hp.2
    refine And.intro (Nat.le_of_ble_eq_true rfl) ?_
    repeat first | refine And.intro rfl ?_ | refine Or.inl (And.intro rfl ?_) | refine Or.inr (And.intro rfl ?_) | refine And.intro (fun (_ : true = true) => ?_) (fun (h : true = false) => Bool.noConfusion h) | refine And.intro (fun (h : false = true) => Bool.noConfusion h) (fun (_ : false = false) => ?_)
    refine And.intro (fun hc => ?_) (fun hc => ?_)
    · have hss : s = s' := by simpa using hc
      subst hss
      repeat first | refine And.intro rfl ?_ | refine Or.inl (And.intro rfl ?_) | refine Or.inr (And.intro rfl ?_) | refine And.intro (fun (_ : true = true) => ?_) (fun (h : true = false) => Bool.noConfusion h) | refine And.intro (fun (h : false = true) => Bool.noConfusion h) (fun (_ : false = false) => ?_)
      refine And.intro (show l.length ≤ 100000 ∧ l'.length ≤ 100000 by omega) ?_
      repeat first | refine And.intro rfl ?_ | refine Or.inl (And.intro rfl ?_) | refine Or.inr (And.intro rfl ?_) | refine And.intro (fun (_ : true = true) => ?_) (fun (h : true = false) => Bool.noConfusion h) | refine And.intro (fun (h : false = true) => Bool.noConfusion h) (fun (_ : false = false) => ?_)
      refine And.intro (show (dg (nv l + nv l')).length ≤ 100000 from Nat.le_trans (len_add b1 b2) (by decide)) ?_
      repeat first | refine And.intro rfl ?_ | refine Or.inl (And.intro rfl ?_) | refine Or.inr (And.intro rfl ?_) | refine And.intro (fun (_ : true = true) => ?_) (fun (h : true = false) => Bool.noConfusion h) | refine And.intro (fun (h : false = true) => Bool.noConfusion h) (fun (_ : false = false) => ?_)
      refine resCI' ?_
      show sg s (nv (dg (nv l + nv l'))) = sg s (nv l) + sg s (nv l')
      rw [nv_dg]
      cases s <;> simp [sg]; omega
    · have hss : s' = !s := by cases s <;> cases s' <;> first | rfl | cases hc
      subst hss
      repeat first | refine And.intro rfl ?_ | refine Or.inl (And.intro rfl ?_) | refine Or.inr (And.intro rfl ?_) | refine And.intro (fun (_ : true = true) => ?_) (fun (h : true = false) => Bool.noConfusion h) | refine And.intro (fun (h : false = true) => Bool.noConfusion h) (fun (_ : false = false) => ?_)
      refine And.intro (show l.length ≤ 100000 ∧ l'.length ≤ 100000 by omega) ?_
      repeat first | refine And.intro rfl ?_ | refine Or.inl (And.intro rfl ?_) | refine Or.inr (And.intro rfl ?_) | refine And.intro (fun (_ : true = true) => ?_) (fun (h : true = false) => Bool.noConfusion h) | refine And.intro (fun (h : false = true) => Bool.noConfusion h) (fun (_ : false = false) => ?_)
      refine And.intro (fun hd => ?_) (fun hd => ?_)
      · have hle : nv l' ≤ nv l := of_decide_eq_true hd
        repeat first | refine And.intro rfl ?_ | refine Or.inl (And.intro rfl ?_) | refine Or.inr (And.intro rfl ?_) | refine And.intro (fun (_ : true = true) => ?_) (fun (h : true = false) => Bool.noConfusion h) | refine And.intro (fun (h : false = true) => Bool.noConfusion h) (fun (_ : false = false) => ?_)
        refine And.intro (show (dg (nv l - nv l')).length ≤ 100000 from Nat.le_trans (len_le (Nat.sub_le _ _) b1) (by decide)) ?_
        repeat first | refine And.intro rfl ?_ | refine Or.inl (And.intro rfl ?_) | refine Or.inr (And.intro rfl ?_) | refine And.intro (fun (_ : true = true) => ?_) (fun (h : true = false) => Bool.noConfusion h) | refine And.intro (fun (h : false = true) => Bool.noConfusion h) (fun (_ : false = false) => ?_)
        refine resCI' ?_
        show sg s (nv (dg (nv l - nv l'))) = sg s (nv l) + sg (!s) (nv l')
        rw [nv_dg]
        cases s <;> simp [sg] <;> omega
      · have hle : ¬ nv l' ≤ nv l := of_decide_eq_false hd
        repeat first | refine And.intro rfl ?_ | refine Or.inl (And.intro rfl ?_) | refine Or.inr (And.intro rfl ?_) | refine And.intro (fun (_ : true = true) => ?_) (fun (h : true = false) => Bool.noConfusion h) | refine And.intro (fun (h : false = true) => Bool.noConfusion h) (fun (_ : false = false) => ?_)
        refine And.intro (show l'.length ≤ 100000 ∧ l.length ≤ 100000 by omega) ?_
        repeat first | refine And.intro rfl ?_ | refine Or.inl (And.intro rfl ?_) | refine Or.inr (And.intro rfl ?_) | refine And.intro (fun (_ : true = true) => ?_) (fun (h : true = false) => Bool.noConfusion h) | refine And.intro (fun (h : false = true) => Bool.noConfusion h) (fun (_ : false = false) => ?_)
        refine And.intro (show (dg (nv l' - nv l)).length ≤ 100000 from Nat.le_trans (len_le (Nat.sub_le _ _) b2) (by decide)) ?_
        repeat first | refine And.intro rfl ?_ | refine Or.inl (And.intro rfl ?_) | refine Or.inr (And.intro rfl ?_) | refine And.intro (fun (_ : true = true) => ?_) (fun (h : true = false) => Bool.noConfusion h) | refine And.intro (fun (h : false = true) => Bool.noConfusion h) (fun (_ : false = false) => ?_)
        refine resCI' ?_
        show sg (!s) (nv (dg (nv l' - nv l))) = sg s (nv l) + sg (!s) (nv l')
        rw [nv_dg]
        cases s <;> simp [sg] <;> omega
  · cases h

def TJ2 : Table := (78, sIntNorm) :: TJ1
theorem TJ2_ok : TabOk TJ2 := TabOk.cons ok_jNorm TJ1_ok

theorem ok_jCmp : Ok1 61 sIntCmp := by
  refine ok_of TJ2_ok Tryz.func61 rfl (by kernel_rfl) ?_
  intro xs pre res h hp hlim
  unfold sIntCmp at h
  split at h
  · rename_i s l s' l'
    cases h
    have hl : Lim l := hlim.1.2.1
    have hl' : Lim l' := hlim.2.1.2.1
    have hd := dg_nv_len hl
    have hd' := dg_nv_len hl'
    have q1 : (dg (sg s (nv l)).natAbs).length ≤ 1000000 := by rw [sg_abs]; omega
    have q2 : (dg (sg s' (nv l')).natAbs).length ≤ 1000000 := by rw [sg_abs]; omega
    refine And.intro (Nat.le_of_ble_eq_true rfl) ?_
    repeat first | refine And.intro rfl ?_ | refine Or.inl (And.intro rfl ?_) | refine Or.inr (And.intro rfl ?_) | refine And.intro (fun (_ : true = true) => ?_) (fun (h : true = false) => Bool.noConfusion h) | refine And.intro (fun (h : false = true) => Bool.noConfusion h) (fun (_ : false = false) => ?_)
    refine And.intro hp.1 ?_
    repeat first | refine And.intro rfl ?_ | refine Or.inl (And.intro rfl ?_) | refine Or.inr (And.intro rfl ?_) | refine And.intro (fun (_ : true = true) => ?_) (fun (h : true = false) => Bool.noConfusion h) | refine And.intro (fun (h : false = true) => Bool.noConfusion h) (fun (_ : false = false) => ?_)
    refine And.intro hp.2 ?_
    repeat first | refine And.intro rfl ?_ | refine Or.inl (And.intro rfl ?_) | refine Or.inr (And.intro rfl ?_) | refine And.intro (fun (_ : true = true) => ?_) (fun (h : true = false) => Bool.noConfusion h) | refine And.intro (fun (h : false = true) => Bool.noConfusion h) (fun (_ : false = false) => ?_)
    by_cases h1 : sg s (nv l) < 0 <;> by_cases h2 : sg s' (nv l') < 0
    · refine Or.inl (And.intro (decide_eq_true h1) ?_)
      repeat first | refine And.intro rfl ?_ | refine Or.inl (And.intro rfl ?_) | refine Or.inr (And.intro rfl ?_) | refine And.intro (fun (_ : true = true) => ?_) (fun (h : true = false) => Bool.noConfusion h) | refine And.intro (fun (h : false = true) => Bool.noConfusion h) (fun (_ : false = false) => ?_)
      refine And.intro (fun hc => ?_) (fun hc => ?_)
      · exfalso; simp [h2] at hc
      · repeat first | refine And.intro rfl ?_ | refine Or.inl (And.intro rfl ?_) | refine Or.inr (And.intro rfl ?_) | refine And.intro (fun (_ : true = true) => ?_) (fun (h : true = false) => Bool.noConfusion h) | refine And.intro (fun (h : false = true) => Bool.noConfusion h) (fun (_ : false = false) => ?_)
        refine Or.inr (And.intro (show (!decide (sg s (nv l) < 0)) = false by simp [h1]) ?_)
        repeat first | refine And.intro rfl ?_ | refine Or.inl (And.intro rfl ?_) | refine Or.inr (And.intro rfl ?_) | refine And.intro (fun (_ : true = true) => ?_) (fun (h : true = false) => Bool.noConfusion h) | refine And.intro (fun (h : false = true) => Bool.noConfusion h) (fun (_ : false = false) => ?_)
        refine And.intro (fun hc => ?_) (fun hc => ?_)
        · repeat first | refine And.intro rfl ?_ | refine Or.inl (And.intro rfl ?_) | refine Or.inr (And.intro rfl ?_) | refine And.intro (fun (_ : true = true) => ?_) (fun (h : true = false) => Bool.noConfusion h) | refine And.intro (fun (h : false = true) => Bool.noConfusion h) (fun (_ : false = false) => ?_)
          refine And.intro (And.intro q2 q1) ?_
          repeat first | refine And.intro rfl ?_ | refine Or.inl (And.intro rfl ?_) | refine Or.inr (And.intro rfl ?_) | refine And.intro (fun (_ : true = true) => ?_) (fun (h : true = false) => Bool.noConfusion h) | refine And.intro (fun (h : false = true) => Bool.noConfusion h) (fun (_ : false = false) => ?_)
          refine resI ?_
          show cmpZ (nv (dg (sg s' (nv l')).natAbs)) (nv (dg (sg s (nv l)).natAbs)) = cmpZ (sg s (nv l)) (sg s' (nv l'))
          rw [nv_dg, nv_dg]
          generalize sg s (nv l) = x at *
          generalize sg s' (nv l') = y at *
          rcases Int.lt_trichotomy x y with h | h | h
          · rw [cmpZ_lt h, cmpZ_lt (by omega)]
          · rw [cmpZ_eq h, cmpZ_eq (by omega)]
          · rw [cmpZ_gt h, cmpZ_gt (by omega)]
        · exfalso; simp [h1] at hc
    · refine Or.inl (And.intro (decide_eq_true h1) ?_)
      repeat first | refine And.intro rfl ?_ | refine Or.inl (And.intro rfl ?_) | refine Or.inr (And.intro rfl ?_) | refine And.intro (fun (_ : true = true) => ?_) (fun (h : true = false) => Bool.noConfusion h) | refine And.intro (fun (h : false = true) => Bool.noConfusion h) (fun (_ : false = false) => ?_)
      refine And.intro (fun hc => ?_) (fun hc => ?_)
      · repeat first | refine And.intro rfl ?_ | refine Or.inl (And.intro rfl ?_) | refine Or.inr (And.intro rfl ?_) | refine And.intro (fun (_ : true = true) => ?_) (fun (h : true = false) => Bool.noConfusion h) | refine And.intro (fun (h : false = true) => Bool.noConfusion h) (fun (_ : false = false) => ?_)
        exact resI (cmpZ_lt (by omega)).symm
      · exfalso; simp [h2] at hc
    · refine Or.inr (And.intro (decide_eq_false h1) ?_)
      repeat first | refine And.intro rfl ?_ | refine Or.inl (And.intro rfl ?_) | refine Or.inr (And.intro rfl ?_) | refine And.intro (fun (_ : true = true) => ?_) (fun (h : true = false) => Bool.noConfusion h) | refine And.intro (fun (h : false = true) => Bool.noConfusion h) (fun (_ : false = false) => ?_)
      refine Or.inl (And.intro (show (!decide (sg s (nv l) < 0)) = true by simp [h1]) ?_)
      repeat first | refine And.intro rfl ?_ | refine Or.inl (And.intro rfl ?_) | refine Or.inr (And.intro rfl ?_) | refine And.intro (fun (_ : true = true) => ?_) (fun (h : true = false) => Bool.noConfusion h) | refine And.intro (fun (h : false = true) => Bool.noConfusion h) (fun (_ : false = false) => ?_)
      refine And.intro (fun hc => ?_) (fun hc => ?_)
      · repeat first | refine And.intro rfl ?_ | refine Or.inl (And.intro rfl ?_) | refine Or.inr (And.intro rfl ?_) | refine And.intro (fun (_ : true = true) => ?_) (fun (h : true = false) => Bool.noConfusion h) | refine And.intro (fun (h : false = true) => Bool.noConfusion h) (fun (_ : false = false) => ?_)
        exact resI (cmpZ_gt (by omega)).symm
      · exfalso; simp [h2] at hc
    · refine Or.inr (And.intro (decide_eq_false h1) ?_)
      repeat first | refine And.intro rfl ?_ | refine Or.inl (And.intro rfl ?_) | refine Or.inr (And.intro rfl ?_) | refine And.intro (fun (_ : true = true) => ?_) (fun (h : true = false) => Bool.noConfusion h) | refine And.intro (fun (h : false = true) => Bool.noConfusion h) (fun (_ : false = false) => ?_)
      refine Or.inl (And.intro (show (!decide (sg s (nv l) < 0)) = true by simp [h1]) ?_)
      repeat first | refine And.intro rfl ?_ | refine Or.inl (And.intro rfl ?_) | refine Or.inr (And.intro rfl ?_) | refine And.intro (fun (_ : true = true) => ?_) (fun (h : true = false) => Bool.noConfusion h) | refine And.intro (fun (h : false = true) => Bool.noConfusion h) (fun (_ : false = false) => ?_)
      refine And.intro (fun hc => ?_) (fun hc => ?_)
      · exfalso; simp [h2] at hc
      · repeat first | refine And.intro rfl ?_ | refine Or.inl (And.intro rfl ?_) | refine Or.inr (And.intro rfl ?_) | refine And.intro (fun (_ : true = true) => ?_) (fun (h : true = false) => Bool.noConfusion h) | refine And.intro (fun (h : false = true) => Bool.noConfusion h) (fun (_ : false = false) => ?_)
        refine And.intro (fun hc => ?_) (fun hc => ?_)
        · exfalso; simp [h1] at hc
        · repeat first | refine And.intro rfl ?_ | refine Or.inl (And.intro rfl ?_) | refine Or.inr (And.intro rfl ?_) | refine And.intro (fun (_ : true = true) => ?_) (fun (h : true = false) => Bool.noConfusion h) | refine And.intro (fun (h : false = true) => Bool.noConfusion h) (fun (_ : false = false) => ?_)
          refine And.intro (And.intro q1 q2) ?_
          repeat first | refine And.intro rfl ?_ | refine Or.inl (And.intro rfl ?_) | refine Or.inr (And.intro rfl ?_) | refine And.intro (fun (_ : true = true) => ?_) (fun (h : true = false) => Bool.noConfusion h) | refine And.intro (fun (h : false = true) => Bool.noConfusion h) (fun (_ : false = false) => ?_)
          refine resI ?_
          show cmpZ (nv (dg (sg s (nv l)).natAbs)) (nv (dg (sg s' (nv l')).natAbs)) = cmpZ (sg s (nv l)) (sg s' (nv l'))
          rw [nv_dg, nv_dg]
          generalize sg s (nv l) = x at *
          generalize sg s' (nv l') = y at *
          rcases Int.lt_trichotomy x y with h | h | h
          · rw [cmpZ_lt h, cmpZ_lt (by omega)]
          · rw [cmpZ_eq h, cmpZ_eq (by omega)]
          · rw [cmpZ_gt h, cmpZ_gt (by omega)]
  · cases h

end Go.Gm

/-
  The ratios of the reference: reduce, Whole, Zero, Of, Norm, Cmp, Neg, Add, Sub, Mul. Plain theorems; no condition.
-/
namespace Go.Gm
open Go.Proofs

theorem szq0 {s : Bool} {l t : List Nat} {n : Nat} (hl : Lim l) (ht : Lim t) (h1 : l.length ≤ n) (h2 : t.length ≤ n) (hn : 0 < n) : Sz n (rq s l t) :=
  Sz.mk (by rw [sg_abs]; exact len_of_lt hl h1) (len_of_lt ht h2) hn

def TRK0 : Table := [(76, sGcd), (77, sDivMod), (101, sIntNeg), (62, sIntMul), (82, sIntAdd), (61, sIntCmp), (66, sIntOf)] ++ TJ2
theorem TRK0_ok : TabOk TRK0 := TabOk.append (TabOk.cons ok_rGcd (TabOk.cons ok_rDivMod (TabOk.cons ok_jNeg (TabOk.cons ok_jMul (TabOk.cons ok_jAdd (TabOk.cons ok_jCmp (TabOk.cons ok_jOf TabOk.nil))))))) TJ2_ok

def sRedR : List RV → Option (Prop × Res)
  | [.one (.b (.val (.bool s))), .one (.b (.nat l)), .one (.b (.nat t))] => some (l.length ≤ 90000 ∧ t.length ≤ 90000 ∧ 0 < nv t, .r (CQ (rq s l t)))
  | _ => none

theorem ok_kReduce : Ok1 51 sRedR := by
  refine ok_of TRK0_ok Tryz.func51 rfl (by kernel_rfl) ?_
  intro xs pre res h hp hlim
  unfold sRedR at h
  split at h
  · rename_i s l t
    cases h
    have hl : Lim l := hlim.2.1
    have ht : Lim t := hlim.2.2.1
    obtain ⟨p1, p2, p3⟩ := hp
    have hg : Nat.gcd (nv l) (nv t) ≤ nv t := Nat.gcd_le_right _ p3
    have hgl : (dg (Nat.gcd (nv l) (nv t))).length ≤ 100000 := Nat.le_trans (len_le hg (len_of_lt ht p2)) (by decide)
    have hql : (dg (nv l / nv (dg (Nat.gcd (nv l) (nv t))))).length ≤ 100000 := Nat.le_trans (len_le (Nat.div_le_self _ _) (len_of_lt hl p1)) (by decide)
    refine And.intro (Nat.le_of_ble_eq_true rfl) ?_
    repeat first | refine And.intro rfl ?_ | refine Or.inl (And.intro rfl ?_) | refine Or.inr (And.intro rfl ?_) | refine And.intro (fun (_ : true = true) => ?_) (fun (h : true = false) => Bool.noConfusion h) | refine And.intro (fun (h : false = true) => Bool.noConfusion h) (fun (_ : false = false) => ?_)
    refine And.intro (show l.length ≤ 100000 ∧ t.length ≤ 100000 ∧ DivFit (nv t) from ⟨by omega, by omega, trivial⟩) ?_
    repeat first | refine And.intro rfl ?_ | refine Or.inl (And.intro rfl ?_) | refine Or.inr (And.intro rfl ?_) | refine And.intro (fun (_ : true = true) => ?_) (fun (h : true = false) => Bool.noConfusion h) | refine And.intro (fun (h : false = true) => Bool.noConfusion h) (fun (_ : false = false) => ?_)
    refine And.intro (show l.length ≤ 100000 ∧ (dg (Nat.gcd (nv l) (nv t))).length ≤ 100000 ∧ DivFit (nv (dg (Nat.gcd (nv l) (nv t)))) from ⟨by omega, hgl, trivial⟩) ?_
    repeat first | refine And.intro rfl ?_ | refine Or.inl (And.intro rfl ?_) | refine Or.inr (And.intro rfl ?_) | refine And.intro (fun (_ : true = true) => ?_) (fun (h : true = false) => Bool.noConfusion h) | refine And.intro (fun (h : false = true) => Bool.noConfusion h) (fun (_ : false = false) => ?_)
    refine And.intro (show t.length ≤ 100000 ∧ (dg (Nat.gcd (nv l) (nv t))).length ≤ 100000 ∧ DivFit (nv (dg (Nat.gcd (nv l) (nv t)))) from ⟨by omega, hgl, trivial⟩) ?_
    repeat first | refine And.intro rfl ?_ | refine Or.inl (And.intro rfl ?_) | refine Or.inr (And.intro rfl ?_) | refine And.intro (fun (_ : true = true) => ?_) (fun (h : true = false) => Bool.noConfusion h) | refine And.intro (fun (h : false = true) => Bool.noConfusion h) (fun (_ : false = false) => ?_)
    refine And.intro hql ?_
    repeat first | refine And.intro rfl ?_ | refine Or.inl (And.intro rfl ?_) | refine Or.inr (And.intro rfl ?_) | refine And.intro (fun (_ : true = true) => ?_) (fun (h : true = false) => Bool.noConfusion h) | refine And.intro (fun (h : false = true) => Bool.noConfusion h) (fun (_ : false = false) => ?_)
    show Res.r (.agg [.val (.bool (decide (sg s (nv (dg (nv l / nv (dg (Nat.gcd (nv l) (nv t)))))) < 0))), .nat (dg (sg s (nv (dg (nv l / nv (dg (Nat.gcd (nv l) (nv t))))))).natAbs), .nat (dg (nv t / nv (dg (Nat.gcd (nv l) (nv t)))))]) = Res.r (CQ (rq s l t))
    unfold CQ rq
    rw [cq_mk s (nv l) (nv t) p3, sg_abs, nv_dg, nv_dg]
  · cases h

def sWholeR : List RV → Option (Prop × Res)
  | [.one (.b (.val (.int .i64 n)))] => some (InR n, .r (CQ ((n : Int) : Rat)))
  | _ => none

theorem ok_kWhole : Ok1 75 sWholeR := by
  refine ok_of TRK0_ok Tryz.func75 rfl (by kernel_rfl) ?_
  intro xs pre res h hp hlim
  unfold sWholeR at h
  split at h
  · rename_i n
    cases h
    refine And.intro (Nat.le_of_ble_eq_true rfl) ?_
    repeat first | refine And.intro rfl ?_ | refine Or.inl (And.intro rfl ?_) | refine Or.inr (And.intro rfl ?_) | refine And.intro (fun (_ : true = true) => ?_) (fun (h : true = false) => Bool.noConfusion h) | refine And.intro (fun (h : false = true) => Bool.noConfusion h) (fun (_ : false = false) => ?_)
    refine And.intro hp ?_
    repeat first | refine And.intro rfl ?_ | refine Or.inl (And.intro rfl ?_) | refine Or.inr (And.intro rfl ?_) | refine And.intro (fun (_ : true = true) => ?_) (fun (h : true = false) => Bool.noConfusion h) | refine And.intro (fun (h : false = true) => Bool.noConfusion h) (fun (_ : false = false) => ?_)
    refine And.intro (show (0 : Int) ≤ 1 ∧ (1 : Int) < 18446744073709551616 by decide) ?_
    repeat first | refine And.intro rfl ?_ | refine Or.inl (And.intro rfl ?_) | refine Or.inr (And.intro rfl ?_) | refine And.intro (fun (_ : true = true) => ?_) (fun (h : true = false) => Bool.noConfusion h) | refine And.intro (fun (h : false = true) => Bool.noConfusion h) (fun (_ : false = false) => ?_)
    rfl
  · cases h

def sZeroR : List RV → Option (Prop × Res)
  | [.agg [.b (.val (.bool s)), .b (.nat l), .b (.nat t)]] => some (l.length ≤ 1000000 ∧ t.length ≤ 1000000, .r (.val (.bool (decide (rq s l t = 0)))))
  | _ => none

theorem zlen (n : Nat) : ((((dg n).length : Nat) : Int) == 0) = Nat.beq n 0 := by
  cases n with
  | zero => rw [dg_zero]; rfl
  | succ n =>
    have := dg_len_pos (show 0 < n + 1 by omega)
    show _ = false
    exact beq_false_of_ne (by omega)

theorem ok_kZero : Ok1 49 sZeroR := by
  refine ok_of TRK0_ok Tryz.func49 rfl (by kernel_rfl) ?_
  intro xs pre res h hp hlim
  unfold sZeroR at h
  split at h
  · rename_i s l t
    cases h
    have z1 := zlen (nv l)
    have z2 := zlen (nv t)
    rw [rq_zero]
    refine And.intro (Nat.le_of_ble_eq_true rfl) ?_
    repeat first | refine And.intro rfl ?_ | refine Or.inl (And.intro rfl ?_) | refine Or.inr (And.intro rfl ?_) | refine And.intro (fun (_ : true = true) => ?_) (fun (h : true = false) => Bool.noConfusion h) | refine And.intro (fun (h : false = true) => Bool.noConfusion h) (fun (_ : false = false) => ?_)
    refine And.intro hp.1 ?_
    repeat first | refine And.intro rfl ?_ | refine Or.inl (And.intro rfl ?_) | refine Or.inr (And.intro rfl ?_) | refine And.intro (fun (_ : true = true) => ?_) (fun (h : true = false) => Bool.noConfusion h) | refine And.intro (fun (h : false = true) => Bool.noConfusion h) (fun (_ : false = false) => ?_)
    cases hb : Nat.beq (nv l) 0 with
    | true =>
      rw [hb] at z1
      refine Or.inr (And.intro z1 ?_)
      repeat first | refine And.intro rfl ?_ | refine Or.inl (And.intro rfl ?_) | refine Or.inr (And.intro rfl ?_) | refine And.intro (fun (_ : true = true) => ?_) (fun (h : true = false) => Bool.noConfusion h) | refine And.intro (fun (h : false = true) => Bool.noConfusion h) (fun (_ : false = false) => ?_)
      refine resB ?_
      unfold vL
      cases Nat.beq (nv t) 0 with
      | true => rfl
      | false => exact hb.symm
    | false =>
      rw [hb] at z1
      refine Or.inl (And.intro z1 ?_)
      repeat first | refine And.intro rfl ?_ | refine Or.inl (And.intro rfl ?_) | refine Or.inr (And.intro rfl ?_) | refine And.intro (fun (_ : true = true) => ?_) (fun (h : true = false) => Bool.noConfusion h) | refine And.intro (fun (h : false = true) => Bool.noConfusion h) (fun (_ : false = false) => ?_)
      refine And.intro hp.2 ?_
      repeat first | refine And.intro rfl ?_ | refine Or.inl (And.intro rfl ?_) | refine Or.inr (And.intro rfl ?_) | refine And.intro (fun (_ : true = true) => ?_) (fun (h : true = false) => Bool.noConfusion h) | refine And.intro (fun (h : false = true) => Bool.noConfusion h) (fun (_ : false = false) => ?_)
      refine resB ?_
      unfold vL
      refine Eq.trans z2 ?_
      cases Nat.beq (nv t) 0 with
      | true => rfl
      | false => exact hb.symm
  · cases h

def TRK1 : Table := [(51, sRedR), (75, sWholeR), (49, sZeroR)] ++ TRK0
theorem TRK1_ok : TabOk TRK1 := TabOk.append (TabOk.cons ok_kReduce (TabOk.cons ok_kWhole (TabOk.cons ok_kZero TabOk.nil))) TRK0_ok

theorem ok_kOf : Ok1 39 sRatOf := by
  refine ok_of TRK1_ok Tryz.func39 rfl (by kernel_rfl) ?_
  intro xs pre res h hp hlim
  unfold sRatOf at h
  split at h
  · rename_i a b
    cases h
    obtain ⟨p1, p2, p3, p4, p5, p6⟩ := hp
    refine And.intro (Nat.le_of_ble_eq_true rfl) ?_
    repeat first | refine And.intro rfl ?_ | refine Or.inl (And.intro rfl ?_) | refine Or.inr (And.intro rfl ?_) | refine And.intro (fun (_ : true = true) => ?_) (fun (h : true = false) => Bool.noConfusion h) | refine And.intro (fun (h : false = true) => Bool.noConfusion h) (fun (_ : false = false) => ?_)
    refine And.intro (fun hc => ?_) (fun hc => ?_)
    · exact absurd (by simpa using hc) p5
    · repeat first | refine And.intro rfl ?_ | refine Or.inl (And.intro rfl ?_) | refine Or.inr (And.intro rfl ?_) | refine And.intro (fun (_ : true = true) => ?_) (fun (h : true = false) => Bool.noConfusion h) | refine And.intro (fun (h : false = true) => Bool.noConfusion h) (fun (_ : false = false) => ?_)
      refine And.intro (And.intro p1 p2) ?_
      repeat first | refine And.intro rfl ?_ | refine Or.inl (And.intro rfl ?_) | refine Or.inr (And.intro rfl ?_) | refine And.intro (fun (_ : true = true) => ?_) (fun (h : true = false) => Bool.noConfusion h) | refine And.intro (fun (h : false = true) => Bool.noConfusion h) (fun (_ : false = false) => ?_)
      refine And.intro (And.intro p3 p4) ?_
      repeat first | refine And.intro rfl ?_ | refine Or.inl (And.intro rfl ?_) | refine Or.inr (And.intro rfl ?_) | refine And.intro (fun (_ : true = true) => ?_) (fun (h : true = false) => Bool.noConfusion h) | refine And.intro (fun (h : false = true) => Bool.noConfusion h) (fun (_ : false = false) => ?_)
      refine And.intro (show (dg a.natAbs).length ≤ 90000 ∧ (dg b.natAbs).length ≤ 90000 ∧ 0 < nv (dg b.natAbs) from ⟨Nat.le_trans (two_len (by omega)) (by decide), Nat.le_trans (two_len (by omega)) (by decide), by rw [nv_dg]; omega⟩) ?_
      repeat first | refine And.intro rfl ?_ | refine Or.inl (And.intro rfl ?_) | refine Or.inr (And.intro rfl ?_) | refine And.intro (fun (_ : true = true) => ?_) (fun (h : true = false) => Bool.noConfusion h) | refine And.intro (fun (h : false = true) => Bool.noConfusion h) (fun (_ : false = false) => ?_)
      show Res.t [CQ (mkRat (sg (!(decide (a < 0) == decide (b < 0))) (nv (dg a.natAbs))) (nv (dg b.natAbs))), .val (.bool true)] = _
      rw [nv_dg, nv_dg]
  · cases h

theorem ok_kNorm : Ok1 50 sRatNorm := by
  refine ok_of TRK1_ok Tryz.func50 rfl (by kernel_rfl) ?_
  intro xs pre res h hp hlim
  unfold sRatNorm at h
  split at h
  · rename_i s l t
    cases h
    obtain ⟨p1, p2, p3⟩ := hp
    refine And.intro (Nat.le_of_ble_eq_true rfl) ?_
    repeat first | refine And.intro rfl ?_ | refine Or.inl (And.intro rfl ?_) | refine Or.inr (And.intro rfl ?_) | refine And.intro (fun (_ : true = true) => ?_) (fun (h : true = false) => Bool.noConfusion h) | refine And.intro (fun (h : false = true) => Bool.noConfusion h) (fun (_ : false = false) => ?_)
    refine And.intro (show l.length ≤ 1000000 ∧ t.length ≤ 1000000 by omega) ?_
    repeat first | refine And.intro rfl ?_ | refine Or.inl (And.intro rfl ?_) | refine Or.inr (And.intro rfl ?_) | refine And.intro (fun (_ : true = true) => ?_) (fun (h : true = false) => Bool.noConfusion h) | refine And.intro (fun (h : false = true) => Bool.noConfusion h) (fun (_ : false = false) => ?_)
    refine And.intro (fun hc => ?_) (fun hc => ?_)
    · have h0 : rq s l t = 0 := of_decide_eq_true hc
      repeat first | refine And.intro rfl ?_ | refine Or.inl (And.intro rfl ?_) | refine Or.inr (And.intro rfl ?_) | refine And.intro (fun (_ : true = true) => ?_) (fun (h : true = false) => Bool.noConfusion h) | refine And.intro (fun (h : false = true) => Bool.noConfusion h) (fun (_ : false = false) => ?_)
      refine And.intro (show InR 0 from ⟨by decide, by decide⟩) ?_
      repeat first | refine And.intro rfl ?_ | refine Or.inl (And.intro rfl ?_) | refine Or.inr (And.intro rfl ?_) | refine And.intro (fun (_ : true = true) => ?_) (fun (h : true = false) => Bool.noConfusion h) | refine And.intro (fun (h : false = true) => Bool.noConfusion h) (fun (_ : false = false) => ?_)
      refine resCQ ?_
      rw [h0]
      rfl
    · have h0 : ¬ rq s l t = 0 := of_decide_eq_false hc
      have ht : 0 < nv t := by
        rcases Nat.eq_zero_or_pos (nv t) with h | h
        · exact absurd (show rq s l t = 0 by unfold rq; rw [h]; simp [mkRat]) h0
        · exact h
      repeat first | refine And.intro rfl ?_ | refine Or.inl (And.intro rfl ?_) | refine Or.inr (And.intro rfl ?_) | refine And.intro (fun (_ : true = true) => ?_) (fun (h : true = false) => Bool.noConfusion h) | refine And.intro (fun (h : false = true) => Bool.noConfusion h) (fun (_ : false = false) => ?_)
      refine And.intro (show l.length ≤ 90000 ∧ t.length ≤ 90000 ∧ 0 < nv t by omega) ?_
      repeat first | refine And.intro rfl ?_ | refine Or.inl (And.intro rfl ?_) | refine Or.inr (And.intro rfl ?_) | refine And.intro (fun (_ : true = true) => ?_) (fun (h : true = false) => Bool.noConfusion h) | refine And.intro (fun (h : false = true) => Bool.noConfusion h) (fun (_ : false = false) => ?_)
      rfl
  · cases h

def TRK2 : Table := (50, sRatNorm) :: TRK1
theorem TRK2_ok : TabOk TRK2 := TabOk.cons ok_kNorm TRK1_ok

theorem ok_kNeg : Ok1 80 sRatNeg := by
  refine ok_of TRK2_ok Tryz.func80 rfl (by kernel_rfl) ?_
  intro xs pre res h hp hlim
  unfold sRatNeg at h
  split at h
  · rename_i s l t
    cases h
    have hl : Lim l := hlim.1.2.1
    have ht : Lim t := hlim.1.2.2.1
    obtain ⟨p1, p2, p3⟩ := hp
    have zz : Sz 80000 (rq s l t) := szq0 hl ht p1 p2 (by decide)
    refine And.intro (Nat.le_of_ble_eq_true rfl) ?_
    repeat first | refine And.intro rfl ?_ | refine Or.inl (And.intro rfl ?_) | refine Or.inr (And.intro rfl ?_) | refine And.intro (fun (_ : true = true) => ?_) (fun (h : true = false) => Bool.noConfusion h) | refine And.intro (fun (h : false = true) => Bool.noConfusion h) (fun (_ : false = false) => ?_)
    refine And.intro (show l.length ≤ 80000 ∧ t.length ≤ 80000 ∧ DivFit (nv t) from ⟨p1, p2, trivial⟩) ?_
    generalize rq s l t = q at zz
    have e := sg_CI q.num
    repeat first | refine And.intro rfl ?_ | refine Or.inl (And.intro rfl ?_) | refine Or.inr (And.intro rfl ?_) | refine And.intro (fun (_ : true = true) => ?_) (fun (h : true = false) => Bool.noConfusion h) | refine And.intro (fun (h : false = true) => Bool.noConfusion h) (fun (_ : false = false) => ?_)
    refine And.intro (show (dg q.num.natAbs).length ≤ 100000 from zz.lenN (by decide)) ?_
    rw [e]
    repeat first | refine And.intro rfl ?_ | refine Or.inl (And.intro rfl ?_) | refine Or.inr (And.intro rfl ?_) | refine And.intro (fun (_ : true = true) => ?_) (fun (h : true = false) => Bool.noConfusion h) | refine And.intro (fun (h : false = true) => Bool.noConfusion h) (fun (_ : false = false) => ?_)
    show Res.r (.agg [.val (.bool (decide (-q.num < 0))), .nat (dg (-q.num).natAbs), .nat (dg q.den)]) = Res.r (CQ (-q))
    unfold CQ cq
    rw [Rat.neg_num, Rat.neg_den]
  · cases h


theorem sg_fal (n : Nat) : sg false (nv (dg n)) = (n : Int) := by rw [nv_dg]; rfl

theorem ok_kCmp : Ok1 34 sRatCmp := by
  refine ok_of TRK2_ok Tryz.func34 rfl (by kernel_rfl) ?_
  intro xs pre res h hp hlim
  unfold sRatCmp at h
  split at h
  · rename_i s l t s' l' t'
    cases h
    have hl : Lim l := hlim.1.2.1
    have ht : Lim t := hlim.1.2.2.1
    have hl' : Lim l' := hlim.2.1.2.1
    have ht' : Lim t' := hlim.2.1.2.2.1
    obtain ⟨p1, p2, p3, p4⟩ := hp
    have za : Sz 40000 (rq s l t) := szq0 hl ht p1 p2 (by decide)
    have zb : Sz 40000 (rq s' l' t') := szq0 hl' ht' p3 p4 (by decide)
    refine And.intro (Nat.le_of_ble_eq_true rfl) ?_
    repeat first | refine And.intro rfl ?_ | refine Or.inl (And.intro rfl ?_) | refine Or.inr (And.intro rfl ?_) | refine And.intro (fun (_ : true = true) => ?_) (fun (h : true = false) => Bool.noConfusion h) | refine And.intro (fun (h : false = true) => Bool.noConfusion h) (fun (_ : false = false) => ?_)
    refine And.intro (show l.length ≤ 80000 ∧ t.length ≤ 80000 ∧ DivFit (nv t) from ⟨by omega, by omega, trivial⟩) ?_
    generalize rq s l t = a at za
    repeat first | refine And.intro rfl ?_ | refine Or.inl (And.intro rfl ?_) | refine Or.inr (And.intro rfl ?_) | refine And.intro (fun (_ : true = true) => ?_) (fun (h : true = false) => Bool.noConfusion h) | refine And.intro (fun (h : false = true) => Bool.noConfusion h) (fun (_ : false = false) => ?_)
    refine And.intro (show l'.length ≤ 80000 ∧ t'.length ≤ 80000 ∧ DivFit (nv t') from ⟨by omega, by omega, trivial⟩) ?_
    generalize rq s' l' t' = b at zb
    have ea := sg_CI a.num
    have eb := sg_CI b.num
    have la : (dg a.num.natAbs).length ≤ 40000 := za.lenN (by decide)
    have da : (dg a.den).length ≤ 40000 := za.lenD (by decide)
    have lb : (dg b.num.natAbs).length ≤ 40000 := zb.lenN (by decide)
    have db : (dg b.den).length ≤ 40000 := zb.lenD (by decide)
    repeat first | refine And.intro rfl ?_ | refine Or.inl (And.intro rfl ?_) | refine Or.inr (And.intro rfl ?_) | refine And.intro (fun (_ : true = true) => ?_) (fun (h : true = false) => Bool.noConfusion h) | refine And.intro (fun (h : false = true) => Bool.noConfusion h) (fun (_ : false = false) => ?_)
    refine And.intro (And.intro la db) ?_
    rw [ea, sg_fal]
    repeat first | refine And.intro rfl ?_ | refine Or.inl (And.intro rfl ?_) | refine Or.inr (And.intro rfl ?_) | refine And.intro (fun (_ : true = true) => ?_) (fun (h : true = false) => Bool.noConfusion h) | refine And.intro (fun (h : false = true) => Bool.noConfusion h) (fun (_ : false = false) => ?_)
    refine And.intro (And.intro lb da) ?_
    rw [eb, sg_fal]
    have q1 : (dg (a.num * (b.den : Int)).natAbs).length ≤ 80000 := by rw [Int.natAbs_mul]; exact len_mul za.1 (by simpa using zb.2)
    have q2 : (dg (b.num * (a.den : Int)).natAbs).length ≤ 80000 := by rw [Int.natAbs_mul]; exact len_mul zb.1 (by simpa using za.2)
    repeat first | refine And.intro rfl ?_ | refine Or.inl (And.intro rfl ?_) | refine Or.inr (And.intro rfl ?_) | refine And.intro (fun (_ : true = true) => ?_) (fun (h : true = false) => Bool.noConfusion h) | refine And.intro (fun (h : false = true) => Bool.noConfusion h) (fun (_ : false = false) => ?_)
    refine And.intro (show (dg (a.num * (b.den : Int)).natAbs).length ≤ 100000 ∧ (dg (b.num * (a.den : Int)).natAbs).length ≤ 100000 by omega) ?_
    rw [sg_CI, sg_CI]
    repeat first | refine And.intro rfl ?_ | refine Or.inl (And.intro rfl ?_) | refine Or.inr (And.intro rfl ?_) | refine And.intro (fun (_ : true = true) => ?_) (fun (h : true = false) => Bool.noConfusion h) | refine And.intro (fun (h : false = true) => Bool.noConfusion h) (fun (_ : false = false) => ?_)
    refine resI ?_
    rw [cmp_mk a.den_pos b.den_pos, Rat.mkRat_self, Rat.mkRat_self]
  · cases h

theorem ok_kAdd : Ok1 57 sRatAdd := by
  refine ok_of TRK2_ok Tryz.func57 rfl (by kernel_rfl) ?_
  intro xs pre res h hp hlim
  unfold sRatAdd at h
  split at h
  · rename_i s l t s' l' t'
    cases h
    have hl : Lim l := hlim.1.2.1
    have ht : Lim t := hlim.1.2.2.1
    have hl' : Lim l' := hlim.2.1.2.1
    have ht' : Lim t' := hlim.2.1.2.2.1
    obtain ⟨p1, p2, p3, p4⟩ := hp
    have za : Sz 40000 (rq s l t) := szq0 hl ht p1 p2 (by decide)
    have zb : Sz 40000 (rq s' l' t') := szq0 hl' ht' p3 p4 (by decide)
    refine And.intro (Nat.le_of_ble_eq_true rfl) ?_
    repeat first | refine And.intro rfl ?_ | refine Or.inl (And.intro rfl ?_) | refine Or.inr (And.intro rfl ?_) | refine And.intro (fun (_ : true = true) => ?_) (fun (h : true = false) => Bool.noConfusion h) | refine And.intro (fun (h : false = true) => Bool.noConfusion h) (fun (_ : false = false) => ?_)
    refine And.intro (show l.length ≤ 80000 ∧ t.length ≤ 80000 ∧ DivFit (nv t) from ⟨by omega, by omega, trivial⟩) ?_
    generalize rq s l t = a at za
    repeat first | refine And.intro rfl ?_ | refine Or.inl (And.intro rfl ?_) | refine Or.inr (And.intro rfl ?_) | refine And.intro (fun (_ : true = true) => ?_) (fun (h : true = false) => Bool.noConfusion h) | refine And.intro (fun (h : false = true) => Bool.noConfusion h) (fun (_ : false = false) => ?_)
    refine And.intro (show l'.length ≤ 80000 ∧ t'.length ≤ 80000 ∧ DivFit (nv t') from ⟨by omega, by omega, trivial⟩) ?_
    generalize rq s' l' t' = b at zb
    have ea := sg_CI a.num
    have eb := sg_CI b.num
    have la : (dg a.num.natAbs).length ≤ 40000 := za.lenN (by decide)
    have da : (dg a.den).length ≤ 40000 := za.lenD (by decide)
    have lb : (dg b.num.natAbs).length ≤ 40000 := zb.lenN (by decide)
    have db : (dg b.den).length ≤ 40000 := zb.lenD (by decide)
    repeat first | refine And.intro rfl ?_ | refine Or.inl (And.intro rfl ?_) | refine Or.inr (And.intro rfl ?_) | refine And.intro (fun (_ : true = true) => ?_) (fun (h : true = false) => Bool.noConfusion h) | refine And.intro (fun (h : false = true) => Bool.noConfusion h) (fun (_ : false = false) => ?_)
    refine And.intro (And.intro la db) ?_
    rw [ea, sg_fal]
    repeat first | refine And.intro rfl ?_ | refine Or.inl (And.intro rfl ?_) | refine Or.inr (And.intro rfl ?_) | refine And.intro (fun (_ : true = true) => ?_) (fun (h : true = false) => Bool.noConfusion h) | refine And.intro (fun (h : false = true) => Bool.noConfusion h) (fun (_ : false = false) => ?_)
    refine And.intro (And.intro lb da) ?_
    rw [eb, sg_fal]
    have q1 : (dg (a.num * (b.den : Int)).natAbs).length ≤ 80000 := by rw [Int.natAbs_mul]; exact len_mul za.1 (by simpa using zb.2)
    have q2 : (dg (b.num * (a.den : Int)).natAbs).length ≤ 80000 := by rw [Int.natAbs_mul]; exact len_mul zb.1 (by simpa using za.2)
    repeat first | refine And.intro rfl ?_ | refine Or.inl (And.intro rfl ?_) | refine Or.inr (And.intro rfl ?_) | refine And.intro (fun (_ : true = true) => ?_) (fun (h : true = false) => Bool.noConfusion h) | refine And.intro (fun (h : false = true) => Bool.noConfusion h) (fun (_ : false = false) => ?_)
    refine And.intro (show (dg (a.num * (b.den : Int)).natAbs).length ≤ 90000 ∧ (dg (b.num * (a.den : Int)).natAbs).length ≤ 90000 by omega) ?_
    rw [sg_CI, sg_CI]
    repeat first | refine And.intro rfl ?_ | refine Or.inl (And.intro rfl ?_) | refine Or.inr (And.intro rfl ?_) | refine And.intro (fun (_ : true = true) => ?_) (fun (h : true = false) => Bool.noConfusion h) | refine And.intro (fun (h : false = true) => Bool.noConfusion h) (fun (_ : false = false) => ?_)
    refine And.intro (show (dg a.den).length ≤ 100000 ∧ (dg b.den).length ≤ 100000 by omega) ?_
    rw [nv_dg, nv_dg]
    repeat first | refine And.intro rfl ?_ | refine Or.inl (And.intro rfl ?_) | refine Or.inr (And.intro rfl ?_) | refine And.intro (fun (_ : true = true) => ?_) (fun (h : true = false) => Bool.noConfusion h) | refine And.intro (fun (h : false = true) => Bool.noConfusion h) (fun (_ : false = false) => ?_)
    refine And.intro (show (dg (a.num * (b.den : Int) + b.num * (a.den : Int)).natAbs).length ≤ 90000 ∧ (dg (a.den * b.den)).length ≤ 90000 ∧ 0 < nv (dg (a.den * b.den)) from ⟨Nat.le_trans (len_addI q1 q2) (by decide), Nat.le_trans (len_mul za.2 zb.2) (by decide), by rw [nv_dg]; exact Nat.mul_pos a.den_pos b.den_pos⟩) ?_
    repeat first | refine And.intro rfl ?_ | refine Or.inl (And.intro rfl ?_) | refine Or.inr (And.intro rfl ?_) | refine And.intro (fun (_ : true = true) => ?_) (fun (h : true = false) => Bool.noConfusion h) | refine And.intro (fun (h : false = true) => Bool.noConfusion h) (fun (_ : false = false) => ?_)
    refine resCQ ?_
    unfold rq
    rw [sg_CI, nv_dg, Rat.add_def']
  · cases h

def TRK3 : Table := [(52, sMul), (80, sRatNeg), (57, sRatAdd)] ++ TRK2
theorem TRK3_ok : TabOk TRK3 := TabOk.append (TabOk.cons ok_rMul (TabOk.cons ok_kNeg (TabOk.cons ok_kAdd TabOk.nil))) TRK2_ok

theorem ok_kSub : Ok1 53 sRatSub := by
  refine ok_of TRK3_ok Tryz.func53 rfl (by kernel_rfl) ?_
  intro xs pre res h hp hlim
  unfold sRatSub at h
  split at h
  · rename_i s l t s' l' t'
    cases h
    have hl : Lim l := hlim.1.2.1
    have ht : Lim t := hlim.1.2.2.1
    have hl' : Lim l' := hlim.2.1.2.1
    have ht' : Lim t' := hlim.2.1.2.2.1
    obtain ⟨p1, p2, p3, p4⟩ := hp
    have hz : Sz 40000 (-(rq s' l' t')) := (Sz.rq hl' ht' p3 p4).neg
    refine And.intro (Nat.le_of_ble_eq_true rfl) ?_
    repeat first | refine And.intro rfl ?_ | refine Or.inl (And.intro rfl ?_) | refine Or.inr (And.intro rfl ?_) | refine And.intro (fun (_ : true = true) => ?_) (fun (h : true = false) => Bool.noConfusion h) | refine And.intro (fun (h : false = true) => Bool.noConfusion h) (fun (_ : false = false) => ?_)
    refine And.intro (show l'.length ≤ 80000 ∧ t'.length ≤ 80000 ∧ DivFit (nv t') from ⟨by omega, by omega, trivial⟩) ?_
    repeat first | refine And.intro rfl ?_ | refine Or.inl (And.intro rfl ?_) | refine Or.inr (And.intro rfl ?_) | refine And.intro (fun (_ : true = true) => ?_) (fun (h : true = false) => Bool.noConfusion h) | refine And.intro (fun (h : false = true) => Bool.noConfusion h) (fun (_ : false = false) => ?_)
    refine And.intro (show l.length ≤ 40000 ∧ t.length ≤ 40000 ∧ (dg (-(rq s' l' t')).num.natAbs).length ≤ 40000 ∧ (dg (-(rq s' l' t')).den).length ≤ 40000 from ⟨p1, p2, hz.lenN (by decide), hz.lenD (by decide)⟩) ?_
    repeat first | refine And.intro rfl ?_ | refine Or.inl (And.intro rfl ?_) | refine Or.inr (And.intro rfl ?_) | refine And.intro (fun (_ : true = true) => ?_) (fun (h : true = false) => Bool.noConfusion h) | refine And.intro (fun (h : false = true) => Bool.noConfusion h) (fun (_ : false = false) => ?_)
    refine resCQ ?_
    rw [rq_cq, Rat.sub_eq_add_neg]
  · cases h

theorem sg_pr (x y : Int) : sg (!(decide (x < 0) == decide (y < 0))) (x.natAbs * y.natAbs) = x * y := by
  have h1 := sg_self x
  have h2 := sg_self y
  have e : sg (!(decide (x < 0) == decide (y < 0))) (x.natAbs * y.natAbs) = sg (decide (x < 0)) x.natAbs * sg (decide (y < 0)) y.natAbs := by
    cases decide (x < 0) <;> cases decide (y < 0) <;> simp only [sg, Int.natCast_mul] <;> simp [Int.neg_mul, Int.mul_neg]
  rw [e, h1, h2]

theorem ok_kMul : Ok1 54 sRatMul := by
  refine ok_of TRK3_ok Tryz.func54 rfl (by kernel_rfl) ?_
  intro xs pre res h hp hlim
  unfold sRatMul at h
  split at h
  · rename_i s l t s' l' t'
    cases h
    have hl : Lim l := hlim.1.2.1
    have ht : Lim t := hlim.1.2.2.1
    have hl' : Lim l' := hlim.2.1.2.1
    have ht' : Lim t' := hlim.2.1.2.2.1
    obtain ⟨p1, p2, p3, p4⟩ := hp
    have za : Sz 40000 (rq s l t) := szq0 hl ht p1 p2 (by decide)
    have zb : Sz 40000 (rq s' l' t') := szq0 hl' ht' p3 p4 (by decide)
    refine And.intro (Nat.le_of_ble_eq_true rfl) ?_
    repeat first | refine And.intro rfl ?_ | refine Or.inl (And.intro rfl ?_) | refine Or.inr (And.intro rfl ?_) | refine And.intro (fun (_ : true = true) => ?_) (fun (h : true = false) => Bool.noConfusion h) | refine And.intro (fun (h : false = true) => Bool.noConfusion h) (fun (_ : false = false) => ?_)
    refine And.intro (show l.length ≤ 80000 ∧ t.length ≤ 80000 ∧ DivFit (nv t) from ⟨by omega, by omega, trivial⟩) ?_
    generalize rq s l t = a at za
    repeat first | refine And.intro rfl ?_ | refine Or.inl (And.intro rfl ?_) | refine Or.inr (And.intro rfl ?_) | refine And.intro (fun (_ : true = true) => ?_) (fun (h : true = false) => Bool.noConfusion h) | refine And.intro (fun (h : false = true) => Bool.noConfusion h) (fun (_ : false = false) => ?_)
    refine And.intro (show l'.length ≤ 80000 ∧ t'.length ≤ 80000 ∧ DivFit (nv t') from ⟨by omega, by omega, trivial⟩) ?_
    generalize rq s' l' t' = b at zb
    have ea := sg_CI a.num
    have eb := sg_CI b.num
    have la : (dg a.num.natAbs).length ≤ 40000 := za.lenN (by decide)
    have da : (dg a.den).length ≤ 40000 := za.lenD (by decide)
    have lb : (dg b.num.natAbs).length ≤ 40000 := zb.lenN (by decide)
    have db : (dg b.den).length ≤ 40000 := zb.lenD (by decide)
    repeat first | refine And.intro rfl ?_ | refine Or.inl (And.intro rfl ?_) | refine Or.inr (And.intro rfl ?_) | refine And.intro (fun (_ : true = true) => ?_) (fun (h : true = false) => Bool.noConfusion h) | refine And.intro (fun (h : false = true) => Bool.noConfusion h) (fun (_ : false = false) => ?_)
    refine And.intro (show (dg a.num.natAbs).length ≤ 100000 ∧ (dg b.num.natAbs).length ≤ 100000 by omega) ?_
    rw [nv_dg, nv_dg]
    repeat first | refine And.intro rfl ?_ | refine Or.inl (And.intro rfl ?_) | refine Or.inr (And.intro rfl ?_) | refine And.intro (fun (_ : true = true) => ?_) (fun (h : true = false) => Bool.noConfusion h) | refine And.intro (fun (h : false = true) => Bool.noConfusion h) (fun (_ : false = false) => ?_)
    refine And.intro (show (dg a.den).length ≤ 100000 ∧ (dg b.den).length ≤ 100000 by omega) ?_
    rw [nv_dg, nv_dg]
    repeat first | refine And.intro rfl ?_ | refine Or.inl (And.intro rfl ?_) | refine Or.inr (And.intro rfl ?_) | refine And.intro (fun (_ : true = true) => ?_) (fun (h : true = false) => Bool.noConfusion h) | refine And.intro (fun (h : false = true) => Bool.noConfusion h) (fun (_ : false = false) => ?_)
    refine And.intro (show (dg (a.num.natAbs * b.num.natAbs)).length ≤ 90000 ∧ (dg (a.den * b.den)).length ≤ 90000 ∧ 0 < nv (dg (a.den * b.den)) from ⟨Nat.le_trans (len_mul za.1 zb.1) (by decide), Nat.le_trans (len_mul za.2 zb.2) (by decide), by rw [nv_dg]; exact Nat.mul_pos a.den_pos b.den_pos⟩) ?_
    repeat first | refine And.intro rfl ?_ | refine Or.inl (And.intro rfl ?_) | refine Or.inr (And.intro rfl ?_) | refine And.intro (fun (_ : true = true) => ?_) (fun (h : true = false) => Bool.noConfusion h) | refine And.intro (fun (h : false = true) => Bool.noConfusion h) (fun (_ : false = false) => ?_)
    refine resCQ ?_
    unfold rq
    rw [nv_dg, nv_dg, sg_pr, Rat.mul_def']
  · cases h

end Go.Gm

