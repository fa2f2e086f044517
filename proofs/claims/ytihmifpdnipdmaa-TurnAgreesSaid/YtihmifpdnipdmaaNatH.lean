/-
  The natural numbers of the program, part H: DivMod and Gcd. Plain theorems; no condition.
-/
import Derived.Test.YtihmifpdnipdmaaNatG
set_option linter.all false
namespace Go.Gm
open Go.Proofs

/-- The divisors that the contract of DivMod speaks of: those of one limb. -/
def DivFit (n : Nat) : Prop := n < 4294967296
theorem DivFit.mono {m n : Nat} (h : m ≤ n) (hn : DivFit n) : DivFit m := Nat.lt_of_le_of_lt h hn

def TH0 : Table := [(168, sTrim), (153, sCmp), (173, sNorm), (174, sShort), (148, sOf)]
theorem TH0_ok : TabOk TH0 := TabOk.cons ok_trim (TabOk.cons ok_natCmp (TabOk.cons ok_natNorm (TabOk.cons ok_natShort (TabOk.cons ok_natOf TabOk.nil))))

/-- The rest, nothing by zero. -/
def rem0 (x y : Nat) : Nat := if y = 0 then 0 else x % y

def sDivMod : List RV → Option (Prop × Res)
  | [.one (.b (.nat l)), .one (.b (.nat l'))] => some (l.length ≤ 100000 ∧ l'.length ≤ 100000 ∧ DivFit (nv l'), .t [.one (.nat (dg (nv l / nv l'))), .one (.nat (dg (rem0 (nv l) (nv l')))), .val (.bool (decide (0 < nv l')))])
  | _ => none

theorem resD {a a' b b' : List Nat} {c c' : Bool} (h1 : a = a') (h2 : b = b') (h3 : c = c') : Res.t [.one (.nat a), .one (.nat b), .val (.bool c)] = Res.t [.one (.nat a'), .one (.nat b'), .val (.bool c')] := by rw [h1, h2, h3]

theorem dg_len_one {n : Nat} (h0 : 0 < n) (h : n < 4294967296) : (dg n).length = 1 := by rw [dg_one n h0 h]; rfl

set_option maxHeartbeats 1000000 in
theorem ok_natDivMod : Ok1 150 sDivMod := by
  refine ok_of TH0_ok Try.func150 rfl (by kernel_rfl) ?_
  intro xs pre res h hp hlim
  unfold sDivMod at h
  split at h
  · rename_i l l'
    cases h
    obtain ⟨hl, hl', _⟩ := hlim
    have hl : Lim l := hl
    have hl' : Lim l' := hl'
    have hd := dg_nv_len hl
    have hd' := dg_nv_len hl'
    obtain ⟨hp1, hp2, hp3⟩ := hp
    have hfit : nv l' < 4294967296 := hp3
    refine And.intro (Nat.le_of_ble_eq_true rfl) ?_
    repeat first | refine And.intro rfl ?_ | refine Or.inl (And.intro rfl ?_) | refine Or.inr (And.intro rfl ?_) | refine And.intro (fun (_ : true = true) => ?_) (fun (h : true = false) => Bool.noConfusion h) | refine And.intro (fun (h : false = true) => Bool.noConfusion h) (fun (_ : false = false) => ?_)
    refine And.intro (show l.length ≤ 1000000 by omega) ?_
    repeat first | refine And.intro rfl ?_ | refine Or.inl (And.intro rfl ?_) | refine Or.inr (And.intro rfl ?_) | refine And.intro (fun (_ : true = true) => ?_) (fun (h : true = false) => Bool.noConfusion h) | refine And.intro (fun (h : false = true) => Bool.noConfusion h) (fun (_ : false = false) => ?_)
    refine And.intro (show l'.length ≤ 1000000 by omega) ?_
    repeat first | refine And.intro rfl ?_ | refine Or.inl (And.intro rfl ?_) | refine Or.inr (And.intro rfl ?_) | refine And.intro (fun (_ : true = true) => ?_) (fun (h : true = false) => Bool.noConfusion h) | refine And.intro (fun (h : false = true) => Bool.noConfusion h) (fun (_ : false = false) => ?_)
    refine And.intro (fun hc => ?_) (fun hc => ?_)
    · have hz : nv l' = 0 := by
        have : (dg (nv l')).length = 0 := by simpa using hc
        exact dg_eq_nil.1 (List.eq_nil_of_length_eq_zero this)
      repeat first | refine And.intro rfl ?_ | refine Or.inl (And.intro rfl ?_) | refine Or.inr (And.intro rfl ?_) | refine And.intro (fun (_ : true = true) => ?_) (fun (h : true = false) => Bool.noConfusion h) | refine And.intro (fun (h : false = true) => Bool.noConfusion h) (fun (_ : false = false) => ?_)
      exact resD (by rw [hz, Nat.div_zero, dg_zero]) (by rw [hz, rem0, if_pos rfl, dg_zero]) (by rw [hz]; rfl)
    · have hz : 0 < nv l' := by
        rcases Nat.eq_zero_or_pos (nv l') with h | h
        · rw [h, dg_zero] at hc; cases hc
        · exact h
      have hone := dg_len_one hz hfit
      have hrem : rem0 (nv l) (nv l') = nv l % nv l' := if_neg (by omega)
      repeat first | refine And.intro rfl ?_ | refine Or.inl (And.intro rfl ?_) | refine Or.inr (And.intro rfl ?_) | refine And.intro (fun (_ : true = true) => ?_) (fun (h : true = false) => Bool.noConfusion h) | refine And.intro (fun (h : false = true) => Bool.noConfusion h) (fun (_ : false = false) => ?_)
      refine And.intro (show (dg (nv l)).length ≤ 1000000 ∧ (dg (nv l')).length ≤ 1000000 by omega) ?_
      repeat first | refine And.intro rfl ?_ | refine Or.inl (And.intro rfl ?_) | refine Or.inr (And.intro rfl ?_) | refine And.intro (fun (_ : true = true) => ?_) (fun (h : true = false) => Bool.noConfusion h) | refine And.intro (fun (h : false = true) => Bool.noConfusion h) (fun (_ : false = false) => ?_)
      refine And.intro (fun hc2 => ?_) (fun hc2 => ?_)
      · have hlt : cmpZ (nv (dg (nv l))) (nv (dg (nv l'))) < 0 := of_decide_eq_true hc2
        rw [nv_dg, nv_dg] at hlt
        have hlt' : nv l < nv l' := by
          rcases Nat.lt_or_ge (nv l) (nv l') with h | h
          · exact h
          · rcases Nat.lt_or_eq_of_le h with h | h
            · rw [cmpZ_gt (by omega)] at hlt; omega
            · rw [cmpZ_eq (by omega)] at hlt; omega
        repeat first | refine And.intro rfl ?_ | refine Or.inl (And.intro rfl ?_) | refine Or.inr (And.intro rfl ?_) | refine And.intro (fun (_ : true = true) => ?_) (fun (h : true = false) => Bool.noConfusion h) | refine And.intro (fun (h : false = true) => Bool.noConfusion h) (fun (_ : false = false) => ?_)
        refine And.intro (show (dg (nv l)).length ≤ 1000000 by omega) ?_
        exact resD (by rw [Nat.div_eq_of_lt hlt', dg_zero]) (by rw [hrem, Nat.mod_eq_of_lt hlt', nv_dg]) (by simp; exact hz)
      · repeat first | refine And.intro rfl ?_ | refine Or.inl (And.intro rfl ?_) | refine Or.inr (And.intro rfl ?_) | refine And.intro (fun (_ : true = true) => ?_) (fun (h : true = false) => Bool.noConfusion h) | refine And.intro (fun (h : false = true) => Bool.noConfusion h) (fun (_ : false = false) => ?_)
        refine And.intro (fun hc3 => ?_) (fun hc3 => ?_)
        · have hdig : (dg (nv l')).getD (0 : Int).toNat 0 = nv l' := by rw [dg_one _ hz hfit]; rfl
          have hu : IntKind.u64.wrap (((nv l % nv l' : Nat)) : Int) = ((nv l % nv l' : Nat) : Int) := by
            have := Nat.mod_lt (nv l) hz
            exact wU (Int.natCast_nonneg _) (by omega)
          repeat first | refine And.intro rfl ?_ | refine Or.inl (And.intro rfl ?_) | refine Or.inr (And.intro rfl ?_) | refine And.intro (fun (_ : true = true) => ?_) (fun (h : true = false) => Bool.noConfusion h) | refine And.intro (fun (h : false = true) => Bool.noConfusion h) (fun (_ : false = false) => ?_)
          refine And.intro (show 0 ≤ (0 : Int) ∧ (0 : Int) < (dg (nv l')).length by rw [hone]; omega) ?_
          repeat first | refine And.intro rfl ?_ | refine Or.inl (And.intro rfl ?_) | refine Or.inr (And.intro rfl ?_) | refine And.intro (fun (_ : true = true) => ?_) (fun (h : true = false) => Bool.noConfusion h) | refine And.intro (fun (h : false = true) => Bool.noConfusion h) (fun (_ : false = false) => ?_)
          refine And.intro (show (dg (nv l)).length ≤ 100000 ∧ 0 < (((dg (nv l')).getD (0 : Int).toNat 0 : Nat) : Int) ∧ (((dg (nv l')).getD (0 : Int).toNat 0 : Nat) : Int) < 4294967296 by rw [hdig]; omega) ?_
          repeat first | refine And.intro rfl ?_ | refine Or.inl (And.intro rfl ?_) | refine Or.inr (And.intro rfl ?_) | refine And.intro (fun (_ : true = true) => ?_) (fun (h : true = false) => Bool.noConfusion h) | refine And.intro (fun (h : false = true) => Bool.noConfusion h) (fun (_ : false = false) => ?_)
          refine And.intro (show 0 ≤ IntKind.u64.wrap _ ∧ IntKind.u64.wrap _ < 18446744073709551616 by rw [wU64]; omega) ?_
          refine resD ?_ ?_ (by simp; exact hz)
          · show dg (nv (dg (nv l)) / (((dg (nv l')).getD (0 : Int).toNat 0 : Nat) : Int).toNat) = _
            rw [hdig, nv_dg, Int.toNat_natCast]
          · show dg (IntKind.u64.wrap ((nv (dg (nv l)) % (((dg (nv l')).getD (0 : Int).toNat 0 : Nat) : Int).toNat : Nat) : Int)).toNat = _
            rw [hdig, nv_dg, Int.toNat_natCast, hu, Int.toNat_natCast, hrem]
        · exfalso
          rw [hone] at hc3
          cases hc3
  · cases h

def TH1 : Table := [(173, sNorm), (150, sDivMod)]
theorem TH1_ok : TabOk TH1 := TabOk.cons ok_natNorm (TabOk.cons ok_natDivMod TabOk.nil)

def sGcd : List RV → Option (Prop × Res)
  | [.one (.b (.nat l)), .one (.b (.nat l'))] => some (l.length ≤ 100000 ∧ l'.length ≤ 100000 ∧ DivFit (nv l'), .r (.one (.nat (dg (Nat.gcd (nv l) (nv l'))))))
  | _ => none

theorem dg_len_mono {a b : Nat} (h : a ≤ b) : (dg a).length ≤ (dg b).length := dg_len_of_lt a _ (Nat.lt_of_le_of_lt h (lt_of_dg_len b _ (Nat.le_refl _)))

set_option maxHeartbeats 1000000 in
theorem ok_natGcd : Ok1 149 sGcd := by
  refine ok_of TH1_ok Try.func149 rfl (by kernel_rfl) ?_
  intro xs pre res h hp hlim
  unfold sGcd at h
  split at h
  · rename_i l l'
    cases h
    obtain ⟨hl, hl', _⟩ := hlim
    have hl : Lim l := hl
    have hl' : Lim l' := hl'
    have hd := dg_nv_len hl
    have hd' := dg_nv_len hl'
    obtain ⟨hp1, hp2, hp3⟩ := hp
    refine And.intro (Nat.le_of_ble_eq_true rfl) ?_
    repeat first | refine And.intro rfl ?_ | refine Or.inl (And.intro rfl ?_) | refine Or.inr (And.intro rfl ?_) | refine And.intro (fun (_ : true = true) => ?_) (fun (h : true = false) => Bool.noConfusion h) | refine And.intro (fun (h : false = true) => Bool.noConfusion h) (fun (_ : false = false) => ?_)
    refine And.intro (show l.length ≤ 1000000 by omega) ?_
    repeat first | refine And.intro rfl ?_ | refine Or.inl (And.intro rfl ?_) | refine Or.inr (And.intro rfl ?_) | refine And.intro (fun (_ : true = true) => ?_) (fun (h : true = false) => Bool.noConfusion h) | refine And.intro (fun (h : false = true) => Bool.noConfusion h) (fun (_ : false = false) => ?_)
    refine And.intro (show l'.length ≤ 1000000 by omega) ?_
    repeat first | refine And.intro rfl ?_ | refine Or.inl (And.intro rfl ?_) | refine Or.inr (And.intro rfl ?_) | refine And.intro (fun (_ : true = true) => ?_) (fun (h : true = false) => Bool.noConfusion h) | refine And.intro (fun (h : false = true) => Bool.noConfusion h) (fun (_ : false = false) => ?_)
    refine Exists.intro {s : Nat × Nat // (dg s.1).length ≤ 100000 ∧ (dg s.2).length ≤ 100000 ∧ DivFit s.2 ∧ Nat.gcd s.1 s.2 = Nat.gcd (nv l) (nv l')} (Exists.intro (fun s => ⟨[(0, .one (.nat (dg s.1.1))), (1, .one (.nat (dg s.1.2)))], ⟨[], []⟩⟩) (Exists.intro (fun s => s.1.2) (Exists.intro ⟨(nv l, nv l'), (show (dg (nv l)).length ≤ 100000 by omega), (show (dg (nv l')).length ≤ 100000 by omega), hp3, rfl⟩ (And.intro ?_ ?_))))
    · repeat first | exact trivial | refine And.intro rfl ?_ | refine And.intro trivial ?_ | refine And.intro (And.intro rfl trivial) ?_ | refine And.intro (And.intro rfl (And.intro rfl trivial)) ?_
    · rintro ⟨⟨x, y⟩, h1, h2, h3, h4⟩
      simp only at h1 h2 h3 h4
      repeat first | refine And.intro rfl ?_ | refine Or.inl (And.intro rfl ?_) | refine Or.inr (And.intro rfl ?_) | refine And.intro (fun (_ : true = true) => ?_) (fun (h : true = false) => Bool.noConfusion h) | refine And.intro (fun (h : false = true) => Bool.noConfusion h) (fun (_ : false = false) => ?_)
      refine And.intro (fun hc => ?_) (fun hc => ?_)
      · have hy : 0 < y := by
          rcases Nat.eq_zero_or_pos y with h | h
          · subst h; cases hc
          · exact h
        have hr : rem0 (nv (dg x)) (nv (dg y)) = x % y := by rw [nv_dg, nv_dg, rem0, if_neg (by omega)]
        have hm := Nat.mod_lt x hy
        repeat first | refine And.intro rfl ?_ | refine Or.inl (And.intro rfl ?_) | refine Or.inr (And.intro rfl ?_) | refine And.intro (fun (_ : true = true) => ?_) (fun (h : true = false) => Bool.noConfusion h) | refine And.intro (fun (h : false = true) => Bool.noConfusion h) (fun (_ : false = false) => ?_)
        refine And.intro (show (dg x).length ≤ 100000 ∧ (dg y).length ≤ 100000 ∧ DivFit (nv (dg y)) by rw [nv_dg]; exact ⟨h1, h2, h3⟩) ?_
        repeat first | refine And.intro rfl ?_ | refine Or.inl (And.intro rfl ?_) | refine Or.inr (And.intro rfl ?_) | refine And.intro (fun (_ : true = true) => ?_) (fun (h : true = false) => Bool.noConfusion h) | refine And.intro (fun (h : false = true) => Bool.noConfusion h) (fun (_ : false = false) => ?_)
        refine Exists.intro ⟨(y, x % y), h2, (show (dg (x % y)).length ≤ 100000 from Nat.le_trans (dg_len_mono (by omega)) h2), h3.mono (by omega), (show Nat.gcd y (x % y) = _ by rw [← h4, Nat.gcd_comm x y, Nat.gcd_rec y x, Nat.gcd_comm])⟩ (And.intro (show x % y < y from hm) ?_)
        repeat first | exact trivial | refine And.intro rfl ?_ | refine And.intro trivial ?_ | refine And.intro (And.intro rfl trivial) ?_ | refine And.intro (And.intro rfl (And.intro rfl trivial)) ?_
        exact And.intro (avN (congrArg dg hr)) trivial
      · have hy : y = 0 := by
          rcases Nat.eq_zero_or_pos y with h | h
          · exact h
          · have := dg_len_pos h
            have : ¬ ((dg y).length : Int) > 0 := of_decide_eq_false hc
            omega
        subst hy
        repeat first | refine And.intro rfl ?_ | refine Or.inl (And.intro rfl ?_) | refine Or.inr (And.intro rfl ?_) | refine And.intro (fun (_ : true = true) => ?_) (fun (h : true = false) => Bool.noConfusion h) | refine And.intro (fun (h : false = true) => Bool.noConfusion h) (fun (_ : false = false) => ?_)
        exact resN (congrArg dg (show x = Nat.gcd (nv l) (nv l') by rw [Nat.gcd_zero_right] at h4; exact h4))
  · cases h

end Go.Gm
