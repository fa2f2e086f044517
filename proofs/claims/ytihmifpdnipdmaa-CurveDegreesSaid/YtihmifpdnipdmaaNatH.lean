/-
  The natural numbers of the program, part H: DivMod and Gcd. Plain theorems; no condition.
-/
import Derived.Test.YtihmifpdnipdmaaNatM
import Derived.Test.YtihmifpdnipdmaaRefP
set_option linter.all false
namespace Go.Gm
open Go.Proofs

/-- The divisors that the contract of DivMod speaks of: all. -/
def DivFit (_n : Nat) : Prop := True
theorem DivFit.mono {m n : Nat} (h : m ≤ n) (hn : DivFit n) : DivFit m := trivial

def TH0 : Table := [(168, sTrim), (153, sCmp), (173, sNorm), (174, sShort), (148, sOf), (175, sLz), (176, sLeft), (178, sRight)]
theorem TH0_ok : TabOk TH0 := TabOk.cons ok_trim (TabOk.cons ok_natCmp (TabOk.cons ok_natNorm (TabOk.cons ok_natShort (TabOk.cons ok_natOf (TabOk.cons ok_lz32 (TabOk.cons ok_leftR (TabOk.cons ok_right TabOk.nil)))))))
def MH0 : TabM := [(176, 56, mLeft)]
theorem MH0_ok : ∀ f d s, (f, d, s) ∈ MH0 → OkM f s := fun f d s h => by
  simp only [MH0, List.mem_singleton, Prod.mk.injEq] at h
  obtain ⟨rfl, rfl, rfl⟩ := h
  exact ok_left
def DH0 : TabD := [(177, dDigit)]
theorem DH0_ok : ∀ f s, (f, s) ∈ DH0 → OkD f s := fun f s h => by
  simp only [DH0, List.mem_singleton, Prod.mk.injEq] at h
  obtain ⟨rfl, rfl⟩ := h
  exact ok_digit

/-- The rest, nothing by zero. -/
def rem0 (x y : Nat) : Nat := if y = 0 then 0 else x % y

def sDivMod : List RV → Option (Prop × Res)
  | [.one (.b (.nat l)), .one (.b (.nat l'))] => some (l.length ≤ 100000 ∧ l'.length ≤ 100000 ∧ DivFit (nv l'), .t [.one (.nat (dg (nv l / nv l'))), .one (.nat (dg (rem0 (nv l) (nv l')))), .val (.bool (decide (0 < nv l')))])
  | _ => none

theorem resD {a a' b b' : List Nat} {c c' : Bool} (h1 : a = a') (h2 : b = b') (h3 : c = c') : Res.t [.one (.nat a), .one (.nat b), .val (.bool c)] = Res.t [.one (.nat a'), .one (.nat b'), .val (.bool c')] := by rw [h1, h2, h3]

theorem dg_len_mono' {a b : Nat} (h : a ≤ b) : (dg a).length ≤ (dg b).length := dg_len_of_lt a _ (Nat.lt_of_le_of_lt h (lt_of_dg_len b _ (Nat.le_refl _)))
theorem dg_len_one {n : Nat} (h0 : 0 < n) (h : n < 4294967296) : (dg n).length = 1 := by rw [dg_one n h0 h]; rfl

set_option maxHeartbeats 1000000 in
theorem ok_natDivMod : Ok1 150 sDivMod := by
  refine ok_of3 TH0_ok MH0_ok DH0_ok Try.func150 rfl (by kernel_rfl) ?_
  intro xs pre res h hp hlim
  unfold sDivMod at h
  split at h
  · rename_i l l'
    cases h
    obtain ⟨hl, hl', _⟩ := hlim
    have hl : Lim l := hl
    have hl' : Lim l' := hl'
    have hd := dg_nv_len hl
    have hd' := dg_nv_len hl'
    obtain ⟨hp1, hp2, hp3⟩ := hp
    refine And.intro (Nat.le_of_ble_eq_true rfl) ?_
    repeat first | refine And.intro rfl ?_ | refine Or.inl (And.intro rfl ?_) | refine Or.inr (And.intro rfl ?_) | refine And.intro (fun (_ : true = true) => ?_) (fun (h : true = false) => Bool.noConfusion h) | refine And.intro (fun (h : false = true) => Bool.noConfusion h) (fun (_ : false = false) => ?_)
    refine And.intro (show l.length ≤ 1000000 by omega) ?_
    repeat first | refine And.intro rfl ?_ | refine Or.inl (And.intro rfl ?_) | refine Or.inr (And.intro rfl ?_) | refine And.intro (fun (_ : true = true) => ?_) (fun (h : true = false) => Bool.noConfusion h) | refine And.intro (fun (h : false = true) => Bool.noConfusion h) (fun (_ : false = false) => ?_)
    refine And.intro (show l'.length ≤ 1000000 by omega) ?_
    repeat first | refine And.intro rfl ?_ | refine Or.inl (And.intro rfl ?_) | refine Or.inr (And.intro rfl ?_) | refine And.intro (fun (_ : true = true) => ?_) (fun (h : true = false) => Bool.noConfusion h) | refine And.intro (fun (h : false = true) => Bool.noConfusion h) (fun (_ : false = false) => ?_)
    refine And.intro (fun hc => ?_) (fun hc => ?_)
    · have hz : nv l' = 0 := by
        have : (dg (nv l')).length = 0 := by simpa using hc
        exact dg_eq_nil.1 (List.eq_nil_of_length_eq_zero this)
      repeat first | refine And.intro rfl ?_ | refine Or.inl (And.intro rfl ?_) | refine Or.inr (And.intro rfl ?_) | refine And.intro (fun (_ : true = true) => ?_) (fun (h : true = false) => Bool.noConfusion h) | refine And.intro (fun (h : false = true) => Bool.noConfusion h) (fun (_ : false = false) => ?_)
      exact resD (by rw [hz, Nat.div_zero, dg_zero]) (by rw [hz, rem0, if_pos rfl, dg_zero]) (by rw [hz]; rfl)
    · have hz : 0 < nv l' := by
        rcases Nat.eq_zero_or_pos (nv l') with h | h
        · rw [h, dg_zero] at hc; cases hc
        · exact h
      have hrem : rem0 (nv l) (nv l') = nv l % nv l' := if_neg (by omega)
      repeat first | refine And.intro rfl ?_ | refine Or.inl (And.intro rfl ?_) | refine Or.inr (And.intro rfl ?_) | refine And.intro (fun (_ : true = true) => ?_) (fun (h : true = false) => Bool.noConfusion h) | refine And.intro (fun (h : false = true) => Bool.noConfusion h) (fun (_ : false = false) => ?_)
      refine And.intro (show (dg (nv l)).length ≤ 1000000 ∧ (dg (nv l')).length ≤ 1000000 by omega) ?_
      repeat first | refine And.intro rfl ?_ | refine Or.inl (And.intro rfl ?_) | refine Or.inr (And.intro rfl ?_) | refine And.intro (fun (_ : true = true) => ?_) (fun (h : true = false) => Bool.noConfusion h) | refine And.intro (fun (h : false = true) => Bool.noConfusion h) (fun (_ : false = false) => ?_)
      refine And.intro (fun hc2 => ?_) (fun hc2 => ?_)
      · have hlt : cmpZ (nv (dg (nv l))) (nv (dg (nv l'))) < 0 := of_decide_eq_true hc2
        rw [nv_dg, nv_dg] at hlt
        have hlt' : nv l < nv l' := by
          rcases Nat.lt_or_ge (nv l) (nv l') with h | h
          · exact h
          · rcases Nat.lt_or_eq_of_le h with h | h
            · rw [cmpZ_gt (by omega)] at hlt; omega
            · rw [cmpZ_eq (by omega)] at hlt; omega
        repeat first | refine And.intro rfl ?_ | refine Or.inl (And.intro rfl ?_) | refine Or.inr (And.intro rfl ?_) | refine And.intro (fun (_ : true = true) => ?_) (fun (h : true = false) => Bool.noConfusion h) | refine And.intro (fun (h : false = true) => Bool.noConfusion h) (fun (_ : false = false) => ?_)
        refine And.intro (show (dg (nv l)).length ≤ 1000000 by omega) ?_
        exact resD (by rw [Nat.div_eq_of_lt hlt', dg_zero]) (by rw [hrem, Nat.mod_eq_of_lt hlt', nv_dg]) (by simp; exact hz)
      · repeat first | refine And.intro rfl ?_ | refine Or.inl (And.intro rfl ?_) | refine Or.inr (And.intro rfl ?_) | refine And.intro (fun (_ : true = true) => ?_) (fun (h : true = false) => Bool.noConfusion h) | refine And.intro (fun (h : false = true) => Bool.noConfusion h) (fun (_ : false = false) => ?_)
        refine And.intro (fun hc3 => ?_) (fun hc3 => ?_)
        · have hone : (dg (nv l')).length = 1 := by have := eq_of_beq hc3; omega
          have hfit : nv l' < 4294967296 := by have := nv_lt (dg_lim (nv l')); rw [nv_dg, hone, B_eq] at this; omega
          have hdig : (dg (nv l')).getD (0 : Int).toNat 0 = nv l' := by rw [dg_one _ hz hfit]; rfl
          have hu : IntKind.u64.wrap (((nv l % nv l' : Nat)) : Int) = ((nv l % nv l' : Nat) : Int) := by
            have := Nat.mod_lt (nv l) hz
            exact wU (Int.natCast_nonneg _) (by omega)
          repeat first | refine And.intro rfl ?_ | refine Or.inl (And.intro rfl ?_) | refine Or.inr (And.intro rfl ?_) | refine And.intro (fun (_ : true = true) => ?_) (fun (h : true = false) => Bool.noConfusion h) | refine And.intro (fun (h : false = true) => Bool.noConfusion h) (fun (_ : false = false) => ?_)
          refine And.intro (show 0 ≤ (0 : Int) ∧ (0 : Int) < (dg (nv l')).length by rw [hone]; omega) ?_
          repeat first | refine And.intro rfl ?_ | refine Or.inl (And.intro rfl ?_) | refine Or.inr (And.intro rfl ?_) | refine And.intro (fun (_ : true = true) => ?_) (fun (h : true = false) => Bool.noConfusion h) | refine And.intro (fun (h : false = true) => Bool.noConfusion h) (fun (_ : false = false) => ?_)
          refine And.intro (show (dg (nv l)).length ≤ 100000 ∧ 0 < (((dg (nv l')).getD (0 : Int).toNat 0 : Nat) : Int) ∧ (((dg (nv l')).getD (0 : Int).toNat 0 : Nat) : Int) < 4294967296 by rw [hdig]; omega) ?_
          repeat first | refine And.intro rfl ?_ | refine Or.inl (And.intro rfl ?_) | refine Or.inr (And.intro rfl ?_) | refine And.intro (fun (_ : true = true) => ?_) (fun (h : true = false) => Bool.noConfusion h) | refine And.intro (fun (h : false = true) => Bool.noConfusion h) (fun (_ : false = false) => ?_)
          refine And.intro (show 0 ≤ IntKind.u64.wrap _ ∧ IntKind.u64.wrap _ < 18446744073709551616 by rw [wU64]; omega) ?_
          refine resD ?_ ?_ (by simp; exact hz)
          · show dg (nv (dg (nv l)) / (((dg (nv l')).getD (0 : Int).toNat 0 : Nat) : Int).toNat) = _
            rw [hdig, nv_dg, Int.toNat_natCast]
          · show dg (IntKind.u64.wrap ((nv (dg (nv l)) % (((dg (nv l')).getD (0 : Int).toNat 0 : Nat) : Int).toNat : Nat) : Int)).toNat = _
            rw [hdig, nv_dg, Int.toNat_natCast, hu, Int.toNat_natCast, hrem]
        · have hne1 : (dg (nv l')).length ≠ 1 := fun h => by rw [h] at hc3; cases hc3
          have hpos := dg_len_pos hz
          obtain ⟨n, hn⟩ : ∃ n, (dg (nv l')).length = n + 2 := ⟨(dg (nv l')).length - 2, by omega⟩
          have w1 : IntKind.i64.wrap (((dg (nv l')).length : Int) - 1) = ((n + 1 : Nat) : Int) := by rw [wI (by omega) (by omega)]; omega
          obtain ⟨s, hs⟩ : ∃ s, s = 32 - blen ((dg (nv l')).getD (n + 1) 0) := ⟨_, rfl⟩
          have htop : 0 < (dg (nv l')).getD (n + 1) 0 := (dg_top hn).2
          obtain ⟨hs1, hs2, hs3⟩ := long_norm (dg_lim (nv l')) hn htop hs
          have eS : (32 - blen ((((dg (nv l')).getD (IntKind.i64.wrap (((dg (nv l')).length : Int) - 1)).toNat 0 : Nat) : Int)).toNat) = s := by rw [w1, Int.toNat_natCast, Int.toNat_natCast, hs]
          have ht32 : (dg (nv l')).getD (n + 1) 0 < 4294967296 := (dg_lim (nv l')).getD (n + 1)
          repeat first | refine And.intro rfl ?_ | refine Or.inl (And.intro rfl ?_) | refine Or.inr (And.intro rfl ?_) | refine And.intro (fun (_ : true = true) => ?_) (fun (h : true = false) => Bool.noConfusion h) | refine And.intro (fun (h : false = true) => Bool.noConfusion h) (fun (_ : false = false) => ?_)
          refine And.intro (show 0 ≤ IntKind.i64.wrap (((dg (nv l')).length : Int) - 1) ∧ IntKind.i64.wrap (((dg (nv l')).length : Int) - 1) < ((dg (nv l')).length : Int) by rw [w1]; omega) ?_
          repeat first | refine And.intro rfl ?_ | refine Or.inl (And.intro rfl ?_) | refine Or.inr (And.intro rfl ?_) | refine And.intro (fun (_ : true = true) => ?_) (fun (h : true = false) => Bool.noConfusion h) | refine And.intro (fun (h : false = true) => Bool.noConfusion h) (fun (_ : false = false) => ?_)
          refine And.intro (show 0 ≤ (((dg (nv l')).getD (IntKind.i64.wrap (((dg (nv l')).length : Int) - 1)).toNat 0 : Nat) : Int) ∧ (((dg (nv l')).getD (IntKind.i64.wrap (((dg (nv l')).length : Int) - 1)).toNat 0 : Nat) : Int) < 4294967296 by rw [w1, Int.toNat_natCast]; omega) ?_
          repeat first | refine And.intro rfl ?_ | refine Or.inl (And.intro rfl ?_) | refine Or.inr (And.intro rfl ?_) | refine And.intro (fun (_ : true = true) => ?_) (fun (h : true = false) => Bool.noConfusion h) | refine And.intro (fun (h : false = true) => Bool.noConfusion h) (fun (_ : false = false) => ?_)
          refine And.intro (show (dg (nv l)).length ≤ 100000 ∧ 0 ≤ ((32 - blen _ : Nat) : Int) ∧ ((32 - blen _ : Nat) : Int) < 32 by rw [eS]; omega) ?_
          repeat first | refine And.intro rfl ?_ | refine Or.inl (And.intro rfl ?_) | refine Or.inr (And.intro rfl ?_) | refine And.intro (fun (_ : true = true) => ?_) (fun (h : true = false) => Bool.noConfusion h) | refine And.intro (fun (h : false = true) => Bool.noConfusion h) (fun (_ : false = false) => ?_)
          refine And.intro (show (dg (nv l')).length ≤ 100000 ∧ 0 ≤ ((32 - blen _ : Nat) : Int) ∧ ((32 - blen _ : Nat) : Int) < 32 by rw [eS]; omega) ?_
          repeat first | refine And.intro rfl ?_ | refine Or.inl (And.intro rfl ?_) | refine Or.inr (And.intro rfl ?_) | refine And.intro (fun (_ : true = true) => ?_) (fun (h : true = false) => Bool.noConfusion h) | refine And.intro (fun (h : false = true) => Bool.noConfusion h) (fun (_ : false = false) => ?_)
          refine And.intro (show 0 ≤ ((dg (nv l')).length : Int) ∧ ((dg (nv l')).length : Int) ≤ ((lk ((dg (nv l')).length + 1) _).length : Int) by rw [lk_len]; omega) ?_
          repeat first | refine And.intro rfl ?_ | refine Or.inl (And.intro rfl ?_) | refine Or.inr (And.intro rfl ?_) | refine And.intro (fun (_ : true = true) => ?_) (fun (h : true = false) => Bool.noConfusion h) | refine And.intro (fun (h : false = true) => Bool.noConfusion h) (fun (_ : false = false) => ?_)
          rw [eS]
          obtain ⟨M, hM⟩ : ∃ M, M = (dg (nv l)).length := ⟨_, rfl⟩
          have hx : nv l < B ^ M := by have := nv_lt (dg_lim (nv l)); rwa [nv_dg, ← hM] at this
          have hge : nv l' ≤ nv l := by
            have hge : ¬ cmpZ (nv (dg (nv l))) (nv (dg (nv l'))) < 0 := of_decide_eq_false hc2
            rw [nv_dg, nv_dg] at hge
            rcases Nat.lt_or_ge (nv l) (nv l') with h | h
            · rw [cmpZ_lt (by omega)] at hge; omega
            · exact h
          have hMn : n + 2 ≤ M := by have := dg_len_mono' hge; omega
          obtain ⟨Y, hY⟩ : ∃ Y, Y = nv l' * 2 ^ s := ⟨_, rfl⟩
          have eV : cutL (lk ((dg (nv l')).length + 1) (nv (dg (nv l')) * 2 ^ (s : Int).toNat)) none (some ((dg (nv l')).length : Int)) = lk (n + 2) Y := by
            show List.take (((dg (nv l')).length : Nat) : Int).toNat _ = _
            rw [Int.toNat_natCast, Int.toNat_natCast, hn, nv_dg, lk_take _ _ _ (by omega), hY]
          have eU : lk ((dg (nv l)).length + 1) (nv (dg (nv l)) * 2 ^ (s : Int).toNat) = lk (M + 1) (nv l * 2 ^ s) := by rw [Int.toNat_natCast, nv_dg, hM]
          have hw : IntKind.i64.wrap (((lk (M + 1) (nv l * 2 ^ s)).length : Int) - ((dg (nv l')).length : Int)) = ((M + 1 - (n + 2) : Nat) : Int) := by rw [lk_len, hn, wI (by omega) (by omega)]; omega
          have hlm : (dg (nv l)).length ≤ 100000 := by omega
          rw [nv_dg, ← hY] at hs2 hs3
          have hX := long_init hx hs1 (show 2147483648 ≤ (lk (n + 2) (nv l' * 2 ^ s)).getD (n + 1) 0 by rw [← hY]; exact hs3) (by omega)
          rw [← hY] at hX
          obtain ⟨K, hK⟩ : ∃ K, K = M + 1 - (n + 2) := ⟨_, rfl⟩
          rw [← hK] at hX hw
          rw [eV, eU]
          repeat first | refine And.intro rfl ?_ | refine Or.inl (And.intro rfl ?_) | refine Or.inr (And.intro rfl ?_) | refine And.intro (fun (_ : true = true) => ?_) (fun (h : true = false) => Bool.noConfusion h) | refine And.intro (fun (h : false = true) => Bool.noConfusion h) (fun (_ : false = false) => ?_)
          refine And.intro (show 0 ≤ IntKind.i64.wrap _ ∧ IntKind.i64.wrap _ ≤ IntKind.i64.wrap _ ∧ IntKind.i64.wrap _ ≤ 1000000 by rw [hw]; omega) ?_
          repeat first | refine And.intro rfl ?_ | refine Or.inl (And.intro rfl ?_) | refine Or.inr (And.intro rfl ?_) | refine And.intro (fun (_ : true = true) => ?_) (fun (h : true = false) => Bool.noConfusion h) | refine And.intro (fun (h : false = true) => Bool.noConfusion h) (fun (_ : false = false) => ?_)
          refine Exists.intro {t : Nat × Nat × List Nat // t.1 ≤ K ∧ Lim t.2.2 ∧ t.2.2.length + t.1 = K ∧ t.2.1 < Y * B ^ t.1 ∧ nv l * 2 ^ s = nv t.2.2 * B ^ t.1 * Y + t.2.1} (Exists.intro (fun t => ⟨[(9, .val (.int .i64 ((dg (nv l')).length : Nat))), (10, .val (.int .i64 (s : Nat))), (11, .own 0), (12, .one (.nat (lk (n + 2) Y))), (13, .own 1), (14, .val (.int .i64 ((t.1.1 : Int) - 1)))], ⟨[], [.n 128 (lk (M + 1) t.1.2.1), .n 128 (List.replicate t.1.1 0 ++ t.1.2.2)]⟩⟩) (Exists.intro (fun t => t.1.1) (Exists.intro ⟨(K, nv l * 2 ^ s, []), Nat.le_refl _, Lim.nil, (show 0 + K = K by omega), hX, (by simp [nv])⟩ (And.intro ?_ ?_))))
          · repeat first | exact trivial | refine And.intro rfl ?_ | refine And.intro trivial ?_ | refine And.intro (And.intro rfl trivial) ?_ | refine And.intro (And.intro rfl (And.intro rfl trivial)) ?_
            refine And.intro (And.intro rfl (And.intro (rwN ?_) trivial)) ?_
            · show List.replicate (IntKind.i64.wrap _).toNat 0 = List.replicate K 0 ++ []
              rw [hw, Int.toNat_natCast, List.append_nil]
            · repeat first | exact trivial | refine And.intro rfl ?_ | refine And.intro trivial ?_ | refine And.intro (And.intro rfl trivial) ?_ | refine And.intro (And.intro rfl (And.intro rfl trivial)) ?_
              refine And.intro (avI ?_) trivial
              show IntKind.i64.wrap (((List.replicate (IntKind.i64.wrap _).toNat 0).length : Int) - 1) = (K : Int) - 1
              rw [hw, Int.toNat_natCast, List.length_replicate, wI (by omega) (by omega)]
          · rintro ⟨⟨k, R, out⟩, hk1, hlo, hol, hR, hinv⟩
            simp only at hk1 hlo hol hR hinv
            have nvV : nv (lk (n + 2) Y) = Y := nv_lk _ _ hs2
            repeat first | refine And.intro rfl ?_ | refine Or.inl (And.intro rfl ?_) | refine Or.inr (And.intro rfl ?_) | refine And.intro (fun (_ : true = true) => ?_) (fun (h : true = false) => Bool.noConfusion h) | refine And.intro (fun (h : false = true) => Bool.noConfusion h) (fun (_ : false = false) => ?_)
            refine And.intro (fun hc => ?_) (fun hc => ?_)
            · have hk : 0 < k := by have : (k : Int) - 1 ≥ 0 := of_decide_eq_true hc; omega
              obtain ⟨j, rfl⟩ : ∃ j, k = j + 1 := ⟨k - 1, by omega⟩
              have ej : ((j + 1 : Nat) : Int) - 1 = (j : Int) := by omega
              have eh : IntKind.i64.wrap (IntKind.i64.wrap (((j + 1 : Nat) : Int) - 1 + ((dg (nv l')).length : Int)) + 1) = ((j + (n + 2) + 1 : Nat) : Int) := by
                rw [ej, hn, wI (x := (j : Int) + ((n + 2 : Nat) : Int)) (by omega) (by omega), wI (by omega) (by omega)]
                omega
              have eL : (((j + 1 : Nat) : Int) - 1).toNat = j := by omega
              have eC : (IntKind.i64.wrap (IntKind.i64.wrap (((j + 1 : Nat) : Int) - 1 + ((dg (nv l')).length : Int)) + 1)).toNat - (((j + 1 : Nat) : Int) - 1).toNat = n + 2 + 1 := by rw [eh, eL]; omega
              obtain ⟨g1, g2, g3, g4, g5, g6⟩ := long_step (M := M) (N := n + 2) (k := j) hR hs2 (by omega)
              have hrow : (List.replicate (j + 1) 0 ++ out).length = K := by simp; omega
              repeat first | refine And.intro rfl ?_ | refine Or.inl (And.intro rfl ?_) | refine Or.inr (And.intro rfl ?_) | refine And.intro (fun (_ : true = true) => ?_) (fun (h : true = false) => Bool.noConfusion h) | refine And.intro (fun (h : false = true) => Bool.noConfusion h) (fun (_ : false = false) => ?_)
              refine And.intro (show (0 ≤ ((j + 1 : Nat) : Int) - 1 ∧ ((j + 1 : Nat) : Int) - 1 ≤ IntKind.i64.wrap (IntKind.i64.wrap (((j + 1 : Nat) : Int) - 1 + ((dg (nv l')).length : Int)) + 1) ∧ IntKind.i64.wrap (IntKind.i64.wrap (((j + 1 : Nat) : Int) - 1 + ((dg (nv l')).length : Int)) + 1) ≤ ((lk (M + 1) R).length : Int)) ∧ (((j + 1 : Nat) : Int) - 1).toNat < (IntKind.i64.wrap (IntKind.i64.wrap (((j + 1 : Nat) : Int) - 1 + ((dg (nv l')).length : Int)) + 1)).toNat by rw [eh, ej, lk_len]; omega) ?_
              repeat first | refine And.intro rfl ?_ | refine Or.inl (And.intro rfl ?_) | refine Or.inr (And.intro rfl ?_) | refine And.intro (fun (_ : true = true) => ?_) (fun (h : true = false) => Bool.noConfusion h) | refine And.intro (fun (h : false = true) => Bool.noConfusion h) (fun (_ : false = false) => ?_)
              refine And.intro (show 2 ≤ (lk (n + 2) Y).length ∧ (IntKind.i64.wrap (IntKind.i64.wrap (((j + 1 : Nat) : Int) - 1 + ((dg (nv l')).length : Int)) + 1)).toNat - (((j + 1 : Nat) : Int) - 1).toNat = (lk (n + 2) Y).length + 1 ∧ (((j + 1 : Nat) : Int) - 1).toNat + ((IntKind.i64.wrap (IntKind.i64.wrap (((j + 1 : Nat) : Int) - 1 + ((dg (nv l')).length : Int)) + 1)).toNat - (((j + 1 : Nat) : Int) - 1).toNat) ≤ (lk (M + 1) R).length ∧ (lk (M + 1) R).length ≤ 200000 ∧ 2147483648 ≤ (lk (n + 2) Y).getD ((lk (n + 2) Y).length - 1) 0 ∧ nv (((lk (M + 1) R).drop (((j + 1 : Nat) : Int) - 1).toNat).take ((IntKind.i64.wrap (IntKind.i64.wrap (((j + 1 : Nat) : Int) - 1 + ((dg (nv l')).length : Int)) + 1)).toNat - (((j + 1 : Nat) : Int) - 1).toNat)) < B * nv (lk (n + 2) Y) by
                rw [eC, eL, lk_len, lk_len, nvV, g1]
                exact ⟨by omega, by omega, by omega, by omega, hs3, g2⟩) ?_
              repeat first | refine And.intro rfl ?_ | refine Or.inl (And.intro rfl ?_) | refine Or.inr (And.intro rfl ?_) | refine And.intro (fun (_ : true = true) => ?_) (fun (h : true = false) => Bool.noConfusion h) | refine And.intro (fun (h : false = true) => Bool.noConfusion h) (fun (_ : false = false) => ?_)
              refine And.intro (show 0 ≤ ((j + 1 : Nat) : Int) - 1 ∧ ((j + 1 : Nat) : Int) - 1 < (List.replicate (j + 1) 0 ++ out).length by rw [hrow]; omega) ?_
              repeat first | refine And.intro rfl ?_ | refine Or.inl (And.intro rfl ?_) | refine Or.inr (And.intro rfl ?_) | refine And.intro (fun (_ : true = true) => ?_) (fun (h : true = false) => Bool.noConfusion h) | refine And.intro (fun (h : false = true) => Bool.noConfusion h) (fun (_ : false = false) => ?_)
              refine And.intro (show (((j + 1 : Nat) : Int) - 1).toNat < (List.replicate (j + 1) 0 ++ out).length ∧ 0 ≤ ((nv (((lk (M + 1) R).drop (((j + 1 : Nat) : Int) - 1).toNat).take ((IntKind.i64.wrap (IntKind.i64.wrap (((j + 1 : Nat) : Int) - 1 + ((dg (nv l')).length : Int)) + 1)).toNat - (((j + 1 : Nat) : Int) - 1).toNat)) / nv (lk (n + 2) Y) : Nat) : Int) ∧ ((nv (((lk (M + 1) R).drop (((j + 1 : Nat) : Int) - 1).toNat).take ((IntKind.i64.wrap (IntKind.i64.wrap (((j + 1 : Nat) : Int) - 1 + ((dg (nv l')).length : Int)) + 1)).toNat - (((j + 1 : Nat) : Int) - 1).toNat)) / nv (lk (n + 2) Y) : Nat) : Int) < 4294967296 by
                rw [eC, eL, hrow, nvV, g1]
                exact ⟨by omega, Int.natCast_nonneg _, Int.ofNat_lt.2 g3⟩) ?_
              repeat first | refine And.intro rfl ?_ | refine Or.inl (And.intro rfl ?_) | refine Or.inr (And.intro rfl ?_) | refine And.intro (fun (_ : true = true) => ?_) (fun (h : true = false) => Bool.noConfusion h) | refine And.intro (fun (h : false = true) => Bool.noConfusion h) (fun (_ : false = false) => ?_)
              refine Exists.intro ⟨(j, R % B ^ j + B ^ j * (R / B ^ j % Y), (R / B ^ j / Y) :: out), (show j ≤ K by omega), Lim.cons g3 hlo, (show (R / B ^ j / Y :: out).length + j = K by simp; omega), g5, long_next hinv g6⟩ (And.intro (show j < j + 1 by omega) ?_)
              repeat first | exact trivial | refine And.intro rfl ?_ | refine And.intro trivial ?_ | refine And.intro (And.intro rfl trivial) ?_ | refine And.intro (And.intro rfl (And.intro rfl trivial)) ?_
              refine And.intro (And.intro (rwN ?_) (And.intro (rwN ?_) trivial)) ?_
              · show (lk (M + 1) R).take (((j + 1 : Nat) : Int) - 1).toNat ++ lk ((IntKind.i64.wrap (IntKind.i64.wrap (((j + 1 : Nat) : Int) - 1 + ((dg (nv l')).length : Int)) + 1)).toNat - (((j + 1 : Nat) : Int) - 1).toNat) (nv (((lk (M + 1) R).drop (((j + 1 : Nat) : Int) - 1).toNat).take ((IntKind.i64.wrap (IntKind.i64.wrap (((j + 1 : Nat) : Int) - 1 + ((dg (nv l')).length : Int)) + 1)).toNat - (((j + 1 : Nat) : Int) - 1).toNat)) % nv (lk (n + 2) Y)) ++ (lk (M + 1) R).drop ((((j + 1 : Nat) : Int) - 1).toNat + ((IntKind.i64.wrap (IntKind.i64.wrap (((j + 1 : Nat) : Int) - 1 + ((dg (nv l')).length : Int)) + 1)).toNat - (((j + 1 : Nat) : Int) - 1).toNat)) = lk (M + 1) (R % B ^ j + B ^ j * (R / B ^ j % Y))
                rw [eC, eL, nvV, g1]
                exact g4
              · show (List.replicate (j + 1) 0 ++ out).set (((j + 1 : Nat) : Int) - 1).toNat ((nv (((lk (M + 1) R).drop (((j + 1 : Nat) : Int) - 1).toNat).take ((IntKind.i64.wrap (IntKind.i64.wrap (((j + 1 : Nat) : Int) - 1 + ((dg (nv l')).length : Int)) + 1)).toNat - (((j + 1 : Nat) : Int) - 1).toNat)) / nv (lk (n + 2) Y) : Nat) : Int).toNat = List.replicate j 0 ++ (R / B ^ j / Y) :: out
                rw [eC, eL, nvV, g1, Int.toNat_natCast]
                exact set_rep out (j + 1) _ (by omega)
              · repeat first | exact trivial | refine And.intro rfl ?_ | refine And.intro trivial ?_ | refine And.intro (And.intro rfl trivial) ?_ | refine And.intro (And.intro rfl (And.intro rfl trivial)) ?_
                refine And.intro (avI ?_) trivial
                show IntKind.i64.wrap (((j + 1 : Nat) : Int) - 1 - 1) = (j : Int) - 1
                rw [ej, wI (by omega) (by omega)]
            · have hk : k = 0 := by have : ¬ (k : Int) - 1 ≥ 0 := of_decide_eq_false hc; omega
              subst hk
              obtain ⟨f1, f2⟩ := long_end (x := nv l) (y := nv l') (s := s) (Q := nv out) (R := R) (by rw [← hY]; exact hinv) (by rw [← hY]; exact hR)
              have hRY : R < B ^ (n + 2) := by rw [Nat.pow_zero, Nat.mul_one] at hR; omega
              repeat first | refine And.intro rfl ?_ | refine Or.inl (And.intro rfl ?_) | refine Or.inr (And.intro rfl ?_) | refine And.intro (fun (_ : true = true) => ?_) (fun (h : true = false) => Bool.noConfusion h) | refine And.intro (fun (h : false = true) => Bool.noConfusion h) (fun (_ : false = false) => ?_)
              refine And.intro (show (List.replicate 0 0 ++ out).length ≤ 1000000 by simp; omega) ?_
              repeat first | refine And.intro rfl ?_ | refine Or.inl (And.intro rfl ?_) | refine Or.inr (And.intro rfl ?_) | refine And.intro (fun (_ : true = true) => ?_) (fun (h : true = false) => Bool.noConfusion h) | refine And.intro (fun (h : false = true) => Bool.noConfusion h) (fun (_ : false = false) => ?_)
              refine And.intro (show 0 ≤ ((dg (nv l')).length : Int) ∧ ((dg (nv l')).length : Int) ≤ ((lk (M + 1) R).length : Int) by rw [lk_len]; omega) ?_
              repeat first | refine And.intro rfl ?_ | refine Or.inl (And.intro rfl ?_) | refine Or.inr (And.intro rfl ?_) | refine And.intro (fun (_ : true = true) => ?_) (fun (h : true = false) => Bool.noConfusion h) | refine And.intro (fun (h : false = true) => Bool.noConfusion h) (fun (_ : false = false) => ?_)
              refine And.intro (show ((lk (M + 1) R).take ((dg (nv l')).length : Int).toNat).length ≤ 100000 ∧ 0 ≤ (s : Int) ∧ (s : Int) < 32 by rw [List.length_take, lk_len]; omega) ?_
              repeat first | refine And.intro rfl ?_ | refine Or.inl (And.intro rfl ?_) | refine Or.inr (And.intro rfl ?_) | refine And.intro (fun (_ : true = true) => ?_) (fun (h : true = false) => Bool.noConfusion h) | refine And.intro (fun (h : false = true) => Bool.noConfusion h) (fun (_ : false = false) => ?_)
              refine resD (congrArg dg ?_) (congrArg dg ?_) (by simp; exact hz)
              · show nv (List.replicate 0 0 ++ out) = _
                rw [← f1]
                rfl
              · show nv ((lk (M + 1) R).take ((dg (nv l')).length : Int).toNat) / 2 ^ (s : Int).toNat = _
                rw [Int.toNat_natCast, Int.toNat_natCast, hn, lk_take _ _ _ (by omega), nv_lk _ _ hRY, f2, hrem]
  · cases h

def TH1 : Table := [(173, sNorm), (150, sDivMod)]
theorem TH1_ok : TabOk TH1 := TabOk.cons ok_natNorm (TabOk.cons ok_natDivMod TabOk.nil)

def sGcd : List RV → Option (Prop × Res)
  | [.one (.b (.nat l)), .one (.b (.nat l'))] => some (l.length ≤ 100000 ∧ l'.length ≤ 100000 ∧ DivFit (nv l'), .r (.one (.nat (dg (Nat.gcd (nv l) (nv l'))))))
  | _ => none

theorem dg_len_mono {a b : Nat} (h : a ≤ b) : (dg a).length ≤ (dg b).length := dg_len_of_lt a _ (Nat.lt_of_le_of_lt h (lt_of_dg_len b _ (Nat.le_refl _)))

set_option maxHeartbeats 1000000 in
theorem ok_natGcd : Ok1 149 sGcd := by
  refine ok_of TH1_ok Try.func149 rfl (by kernel_rfl) ?_
  intro xs pre res h hp hlim
  unfold sGcd at h
  split at h
  · rename_i l l'
    cases h
    obtain ⟨hl, hl', _⟩ := hlim
    have hl : Lim l := hl
    have hl' : Lim l' := hl'
    have hd := dg_nv_len hl
    have hd' := dg_nv_len hl'
    obtain ⟨hp1, hp2, hp3⟩ := hp
    refine And.intro (Nat.le_of_ble_eq_true rfl) ?_
    repeat first | refine And.intro rfl ?_ | refine Or.inl (And.intro rfl ?_) | refine Or.inr (And.intro rfl ?_) | refine And.intro (fun (_ : true = true) => ?_) (fun (h : true = false) => Bool.noConfusion h) | refine And.intro (fun (h : false = true) => Bool.noConfusion h) (fun (_ : false = false) => ?_)
    refine And.intro (show l.length ≤ 1000000 by omega) ?_
    repeat first | refine And.intro rfl ?_ | refine Or.inl (And.intro rfl ?_) | refine Or.inr (And.intro rfl ?_) | refine And.intro (fun (_ : true = true) => ?_) (fun (h : true = false) => Bool.noConfusion h) | refine And.intro (fun (h : false = true) => Bool.noConfusion h) (fun (_ : false = false) => ?_)
    refine And.intro (show l'.length ≤ 1000000 by omega) ?_
    repeat first | refine And.intro rfl ?_ | refine Or.inl (And.intro rfl ?_) | refine Or.inr (And.intro rfl ?_) | refine And.intro (fun (_ : true = true) => ?_) (fun (h : true = false) => Bool.noConfusion h) | refine And.intro (fun (h : false = true) => Bool.noConfusion h) (fun (_ : false = false) => ?_)
    refine Exists.intro {s : Nat × Nat // (dg s.1).length ≤ 100000 ∧ (dg s.2).length ≤ 100000 ∧ DivFit s.2 ∧ Nat.gcd s.1 s.2 = Nat.gcd (nv l) (nv l')} (Exists.intro (fun s => ⟨[(0, .one (.nat (dg s.1.1))), (1, .one (.nat (dg s.1.2)))], ⟨[], []⟩⟩) (Exists.intro (fun s => s.1.2) (Exists.intro ⟨(nv l, nv l'), (show (dg (nv l)).length ≤ 100000 by omega), (show (dg (nv l')).length ≤ 100000 by omega), hp3, rfl⟩ (And.intro ?_ ?_))))
    · repeat first | exact trivial | refine And.intro rfl ?_ | refine And.intro trivial ?_ | refine And.intro (And.intro rfl trivial) ?_ | refine And.intro (And.intro rfl (And.intro rfl trivial)) ?_
    · rintro ⟨⟨x, y⟩, h1, h2, h3, h4⟩
      simp only at h1 h2 h3 h4
      repeat first | refine And.intro rfl ?_ | refine Or.inl (And.intro rfl ?_) | refine Or.inr (And.intro rfl ?_) | refine And.intro (fun (_ : true = true) => ?_) (fun (h : true = false) => Bool.noConfusion h) | refine And.intro (fun (h : false = true) => Bool.noConfusion h) (fun (_ : false = false) => ?_)
      refine And.intro (fun hc => ?_) (fun hc => ?_)
      · have hy : 0 < y := by
          rcases Nat.eq_zero_or_pos y with h | h
          · subst h; cases hc
          · exact h
        have hr : rem0 (nv (dg x)) (nv (dg y)) = x % y := by rw [nv_dg, nv_dg, rem0, if_neg (by omega)]
        have hm := Nat.mod_lt x hy
        repeat first | refine And.intro rfl ?_ | refine Or.inl (And.intro rfl ?_) | refine Or.inr (And.intro rfl ?_) | refine And.intro (fun (_ : true = true) => ?_) (fun (h : true = false) => Bool.noConfusion h) | refine And.intro (fun (h : false = true) => Bool.noConfusion h) (fun (_ : false = false) => ?_)
        refine And.intro (show (dg x).length ≤ 100000 ∧ (dg y).length ≤ 100000 ∧ DivFit (nv (dg y)) by rw [nv_dg]; exact ⟨h1, h2, h3⟩) ?_
        repeat first | refine And.intro rfl ?_ | refine Or.inl (And.intro rfl ?_) | refine Or.inr (And.intro rfl ?_) | refine And.intro (fun (_ : true = true) => ?_) (fun (h : true = false) => Bool.noConfusion h) | refine And.intro (fun (h : false = true) => Bool.noConfusion h) (fun (_ : false = false) => ?_)
        refine Exists.intro ⟨(y, x % y), h2, (show (dg (x % y)).length ≤ 100000 from Nat.le_trans (dg_len_mono (by omega)) h2), h3.mono (by omega), (show Nat.gcd y (x % y) = _ by rw [← h4, Nat.gcd_comm x y, Nat.gcd_rec y x, Nat.gcd_comm])⟩ (And.intro (show x % y < y from hm) ?_)
        repeat first | exact trivial | refine And.intro rfl ?_ | refine And.intro trivial ?_ | refine And.intro (And.intro rfl trivial) ?_ | refine And.intro (And.intro rfl (And.intro rfl trivial)) ?_
        exact And.intro (avN (congrArg dg hr)) trivial
      · have hy : y = 0 := by
          rcases Nat.eq_zero_or_pos y with h | h
          · exact h
          · have := dg_len_pos h
            have : ¬ ((dg y).length : Int) > 0 := of_decide_eq_false hc
            omega
        subst hy
        repeat first | refine And.intro rfl ?_ | refine Or.inl (And.intro rfl ?_) | refine Or.inr (And.intro rfl ?_) | refine And.intro (fun (_ : true = true) => ?_) (fun (h : true = false) => Bool.noConfusion h) | refine And.intro (fun (h : false = true) => Bool.noConfusion h) (fun (_ : false = false) => ?_)
        exact resN (congrArg dg (show x = Nat.gcd (nv l) (nv l') by rw [Nat.gcd_zero_right] at h4; exact h4))
  · cases h

end Go.Gm
