/-
  The natural numbers of the program, part E: Sub. Plain theorems; no condition.
-/
import Derived.Test.YtihmifpdnipdmaaNatD
set_option linter.all false
namespace Go.Gm
open Go.Proofs

/-- One step of a subtraction. -/
theorem sub_step {p q out : List Nat} {i b x y v b' : Nat} (hlen : out.length = i) (h : nv out + nv (q.take i) = nv (p.take i) + B ^ i * b) (hx : x = p.getD i 0) (hy : y = q.getD i 0) (hv : v + y + b = x + B * b') :
    nv (out ++ [v]) + nv (q.take (i + 1)) = nv (p.take (i + 1)) + B ^ (i + 1) * b' := by
  rw [nv_snoc, hlen, nv_take_getD', nv_take_getD', Nat.pow_succ, ← hx, ← hy]
  have := congrArg (fun z => B ^ i * z) hv
  simp only [Nat.mul_add] at this
  rw [Nat.mul_assoc]
  omega

theorem set_mid (out : List Nat) (m v : Nat) (hm : 0 < m) : (out ++ List.replicate m 0).set out.length v = (out ++ [v]) ++ List.replicate (m - 1) 0 := by
  obtain ⟨k, rfl⟩ : ∃ k, m = k + 1 := ⟨m - 1, by omega⟩
  rw [List.set_append_right _ _ (Nat.le_refl _), Nat.sub_self, List.replicate_succ, List.set_cons_zero]
  simp

theorem resT {l l' : List Nat} {b b' : Bool} (h : l = l') (h' : b = b') : Res.t [.one (.nat l), .val (.bool b)] = Res.t [.one (.nat l'), .val (.bool b')] := by rw [h, h']
theorem rwN {e : TypeId} {l l' : List Nat} (h : l = l') : Rw.n e l = Rw.n e l' := by rw [h]

def sSub : List RV → Option (Prop × Res)
  | [.one (.b (.nat l)), .one (.b (.nat l'))] => some (l.length ≤ 100000 ∧ l'.length ≤ 100000, .t [.one (.nat (dg (nv l - nv l'))), .val (.bool (decide (nv l' ≤ nv l)))])
  | _ => none


theorem ok_natSub : Ok1 167 sSub := by
  refine ok_of TD0_ok Try.func167 rfl (by kernel_rfl) ?_
  intro xs pre res h hp hlim
  unfold sSub at h
  split at h
  · rename_i l l'
    cases h
    obtain ⟨hl, hl', _⟩ := hlim
    have hl : Lim l := hl
    have hl' : Lim l' := hl'
    have hd := dg_nv_len hl
    have hd' := dg_nv_len hl'
    refine And.intro (Nat.le_of_ble_eq_true rfl) ?_
    repeat first | refine And.intro rfl ?_ | refine Or.inl (And.intro rfl ?_) | refine Or.inr (And.intro rfl ?_) | refine And.intro (fun (_ : true = true) => ?_) (fun (h : true = false) => Bool.noConfusion h) | refine And.intro (fun (h : false = true) => Bool.noConfusion h) (fun (_ : false = false) => ?_)
    refine And.intro (show l.length ≤ 1000000 by omega) ?_
    repeat first | refine And.intro rfl ?_ | refine Or.inl (And.intro rfl ?_) | refine Or.inr (And.intro rfl ?_) | refine And.intro (fun (_ : true = true) => ?_) (fun (h : true = false) => Bool.noConfusion h) | refine And.intro (fun (h : false = true) => Bool.noConfusion h) (fun (_ : false = false) => ?_)
    refine And.intro (show l'.length ≤ 1000000 by omega) ?_
    repeat first | refine And.intro rfl ?_ | refine Or.inl (And.intro rfl ?_) | refine Or.inr (And.intro rfl ?_) | refine And.intro (fun (_ : true = true) => ?_) (fun (h : true = false) => Bool.noConfusion h) | refine And.intro (fun (h : false = true) => Bool.noConfusion h) (fun (_ : false = false) => ?_)
    refine And.intro (show (dg (nv l)).length ≤ 1000000 ∧ (dg (nv l')).length ≤ 1000000 by omega) ?_
    repeat first | refine And.intro rfl ?_ | refine Or.inl (And.intro rfl ?_) | refine Or.inr (And.intro rfl ?_) | refine And.intro (fun (_ : true = true) => ?_) (fun (h : true = false) => Bool.noConfusion h) | refine And.intro (fun (h : false = true) => Bool.noConfusion h) (fun (_ : false = false) => ?_)
    refine And.intro (fun hc => ?_) (fun hc => ?_)
    · have hlt : cmpZ (nv (dg (nv l))) (nv (dg (nv l'))) < 0 := of_decide_eq_true hc
      rw [nv_dg, nv_dg] at hlt
      have hlt' : nv l < nv l' := by
        rcases Nat.lt_or_ge (nv l) (nv l') with h | h
        · exact h
        · rcases Nat.lt_or_eq_of_le h with h | h
          · rw [cmpZ_gt (by omega)] at hlt; omega
          · rw [cmpZ_eq (by omega)] at hlt; omega
      repeat first | refine And.intro rfl ?_ | refine Or.inl (And.intro rfl ?_) | refine Or.inr (And.intro rfl ?_) | refine And.intro (fun (_ : true = true) => ?_) (fun (h : true = false) => Bool.noConfusion h) | refine And.intro (fun (h : false = true) => Bool.noConfusion h) (fun (_ : false = false) => ?_)
      exact resT (by rw [Nat.sub_eq_zero_of_le (by omega), dg_zero]) (by simp; omega)
    · have hge : ¬ cmpZ (nv (dg (nv l))) (nv (dg (nv l'))) < 0 := of_decide_eq_false hc
      rw [nv_dg, nv_dg] at hge
      have hge' : nv l' ≤ nv l := by
        rcases Nat.lt_or_ge (nv l) (nv l') with h | h
        · rw [cmpZ_lt (by omega)] at hge; omega
        · exact h
      have hlen : (dg (nv l')).length ≤ (dg (nv l)).length := by
        rcases Nat.lt_or_ge (dg (nv l)).length (dg (nv l')).length with h | h
        · have := lt_of_len h; omega
        · exact h
      repeat first | refine And.intro rfl ?_ | refine Or.inl (And.intro rfl ?_) | refine Or.inr (And.intro rfl ?_) | refine And.intro (fun (_ : true = true) => ?_) (fun (h : true = false) => Bool.noConfusion h) | refine And.intro (fun (h : false = true) => Bool.noConfusion h) (fun (_ : false = false) => ?_)
      refine And.intro (show 0 ≤ ((dg (nv l)).length : Int) ∧ ((dg (nv l)).length : Int) ≤ (dg (nv l)).length ∧ ((dg (nv l)).length : Int) ≤ 1000000 by omega) ?_
      repeat first | refine And.intro rfl ?_ | refine Or.inl (And.intro rfl ?_) | refine Or.inr (And.intro rfl ?_) | refine And.intro (fun (_ : true = true) => ?_) (fun (h : true = false) => Bool.noConfusion h) | refine And.intro (fun (h : false = true) => Bool.noConfusion h) (fun (_ : false = false) => ?_)
      refine Exists.intro {s : Nat × Nat × List Nat // s.1 ≤ (dg (nv l)).length ∧ s.2.1 ≤ 1 ∧ Lim s.2.2 ∧ s.2.2.length = s.1 ∧ nv s.2.2 + nv ((dg (nv l')).take s.1) = nv ((dg (nv l)).take s.1) + B ^ s.1 * s.2.1} (Exists.intro (fun s => ⟨[(0, .one (.nat (dg (nv l)))), (1, .one (.nat (dg (nv l')))), (6, .own 0), (7, .val (.int .u64 (s.1.2.1 : Nat))), (22, .one (.nat (dg (nv l)))), (23, .val (.int .i64 ((dg (nv l)).length : Nat))), (24, .val (.int .i64 (s.1.1 : Nat)))], ⟨[], [.n 128 (s.1.2.2 ++ List.replicate ((dg (nv l)).length - s.1.1) 0)]⟩⟩) (Exists.intro (fun s => (dg (nv l)).length - s.1.1) (Exists.intro ⟨(0, 0, []), by simp [nv, Lim.nil]⟩ (And.intro ?_ ?_))))
      · repeat first | exact trivial | refine And.intro rfl ?_ | refine And.intro trivial ?_ | refine And.intro (And.intro rfl trivial) ?_ | refine And.intro (And.intro rfl (And.intro rfl trivial)) ?_
      · rintro ⟨⟨i, b, out⟩, hi, hb1, hlo, hol, hinv⟩
        simp only at hi hb1 hlo hol hinv
        have hrl : (out ++ List.replicate ((dg (nv l)).length - i) 0).length = (dg (nv l)).length := by simp; omega
        repeat first | refine And.intro rfl ?_ | refine Or.inl (And.intro rfl ?_) | refine Or.inr (And.intro rfl ?_) | refine And.intro (fun (_ : true = true) => ?_) (fun (h : true = false) => Bool.noConfusion h) | refine And.intro (fun (h : false = true) => Bool.noConfusion h) (fun (_ : false = false) => ?_)
        refine And.intro (fun hc => ?_) (fun hc => ?_)
        · have hi' : (i : Int) < (dg (nv l)).length := of_decide_eq_true hc
          have hx : (dg (nv l)).getD i 0 < 4294967296 := (dg_lim (nv l)).getD i
          have hy : (dg (nv l')).getD i 0 < 4294967296 := (dg_lim (nv l')).getD i
          repeat first | refine And.intro rfl ?_ | refine Or.inl (And.intro rfl ?_) | refine Or.inr (And.intro rfl ?_) | refine And.intro (fun (_ : true = true) => ?_) (fun (h : true = false) => Bool.noConfusion h) | refine And.intro (fun (h : false = true) => Bool.noConfusion h) (fun (_ : false = false) => ?_)
          refine And.intro (show 0 ≤ (i : Int) ∧ (i : Int) < (dg (nv l)).length by omega) ?_
          repeat first | refine And.intro rfl ?_ | refine Or.inl (And.intro rfl ?_) | refine Or.inr (And.intro rfl ?_) | refine And.intro (fun (_ : true = true) => ?_) (fun (h : true = false) => Bool.noConfusion h) | refine And.intro (fun (h : false = true) => Bool.noConfusion h) (fun (_ : false = false) => ?_)
          refine And.intro (fun hd => ?_) (fun hd => ?_)
          · have hd' : (i : Int) < (dg (nv l')).length := of_decide_eq_true hd
            have ed : IntKind.u64.wrap (IntKind.u64.wrap (IntKind.u64.wrap (((dg (nv l)).getD (i : Int).toNat 0 : Nat) : Int) - (b : Nat)) - IntKind.u64.wrap (((dg (nv l')).getD (i : Int).toNat 0 : Nat) : Int)) = (((dg (nv l)).getD i 0 : Nat) - (b : Nat) - ((dg (nv l')).getD i 0 : Nat) : Int) % 18446744073709551616 := by
              simp only [wU64, Int.toNat_natCast]
              omega
            repeat first | refine And.intro rfl ?_ | refine Or.inl (And.intro rfl ?_) | refine Or.inr (And.intro rfl ?_) | refine And.intro (fun (_ : true = true) => ?_) (fun (h : true = false) => Bool.noConfusion h) | refine And.intro (fun (h : false = true) => Bool.noConfusion h) (fun (_ : false = false) => ?_)
            refine And.intro (show 0 ≤ (i : Int) ∧ (i : Int) < (dg (nv l')).length by omega) ?_
            have e32 : IntKind.u32.wrap (IntKind.u64.wrap (IntKind.u64.wrap (IntKind.u64.wrap (((dg (nv l)).getD (i : Int).toNat 0 : Nat) : Int) - (b : Nat)) - IntKind.u64.wrap (((dg (nv l')).getD (i : Int).toNat 0 : Nat) : Int))) = ((((((dg (nv l)).getD i 0 : Nat) - (b : Nat) - ((dg (nv l')).getD i 0 : Nat) : Int) % 4294967296).toNat : Nat) : Int) := by rw [ed, wU32]; omega
            have eb : Int.fdiv (IntKind.u64.wrap (IntKind.u64.wrap (IntKind.u64.wrap (((dg (nv l)).getD (i : Int).toNat 0 : Nat) : Int) - (b : Nat)) - IntKind.u64.wrap (((dg (nv l')).getD (i : Int).toNat 0 : Nat) : Int))) (2 ^ min (63 : Int).toNat IntKind.u64.bits) = (((-((((dg (nv l)).getD i 0 : Nat) - (b : Nat) - ((dg (nv l')).getD i 0 : Nat) : Int) / 4294967296)).toNat : Nat) : Int) := by rw [ed, fdiv63]; omega
            repeat first | refine And.intro rfl ?_ | refine Or.inl (And.intro rfl ?_) | refine Or.inr (And.intro rfl ?_) | refine And.intro (fun (_ : true = true) => ?_) (fun (h : true = false) => Bool.noConfusion h) | refine And.intro (fun (h : false = true) => Bool.noConfusion h) (fun (_ : false = false) => ?_)
            refine And.intro (show 0 ≤ (i : Int) ∧ (i : Int) < (out ++ List.replicate ((dg (nv l)).length - i) 0).length by rw [hrl]; omega) ?_
            repeat first | refine And.intro rfl ?_ | refine Or.inl (And.intro rfl ?_) | refine Or.inr (And.intro rfl ?_) | refine And.intro (fun (_ : true = true) => ?_) (fun (h : true = false) => Bool.noConfusion h) | refine And.intro (fun (h : false = true) => Bool.noConfusion h) (fun (_ : false = false) => ?_)
            refine And.intro (show (i : Int).toNat < (out ++ List.replicate ((dg (nv l)).length - i) 0).length ∧ 0 ≤ IntKind.u32.wrap (IntKind.u64.wrap (IntKind.u64.wrap (IntKind.u64.wrap (((dg (nv l)).getD (i : Int).toNat 0 : Nat) : Int) - (b : Nat)) - IntKind.u64.wrap (((dg (nv l')).getD (i : Int).toNat 0 : Nat) : Int))) ∧ IntKind.u32.wrap (IntKind.u64.wrap (IntKind.u64.wrap (IntKind.u64.wrap (((dg (nv l)).getD (i : Int).toNat 0 : Nat) : Int) - (b : Nat)) - IntKind.u64.wrap (((dg (nv l')).getD (i : Int).toNat 0 : Nat) : Int))) < 4294967296 by rw [hrl, e32]; omega) ?_
            repeat first | refine And.intro rfl ?_ | refine Or.inl (And.intro rfl ?_) | refine Or.inr (And.intro rfl ?_) | refine And.intro (fun (_ : true = true) => ?_) (fun (h : true = false) => Bool.noConfusion h) | refine And.intro (fun (h : false = true) => Bool.noConfusion h) (fun (_ : false = false) => ?_)
            refine And.intro (show 0 ≤ (63 : Int) by decide) ?_
            repeat first | refine And.intro rfl ?_ | refine Or.inl (And.intro rfl ?_) | refine Or.inr (And.intro rfl ?_) | refine And.intro (fun (_ : true = true) => ?_) (fun (h : true = false) => Bool.noConfusion h) | refine And.intro (fun (h : false = true) => Bool.noConfusion h) (fun (_ : false = false) => ?_)
            refine Exists.intro ⟨(i + 1, (-((((dg (nv l)).getD i 0 : Nat) - (b : Nat) - ((dg (nv l')).getD i 0 : Nat) : Int) / 4294967296)).toNat, out ++ [((((dg (nv l)).getD i 0 : Nat) - (b : Nat) - ((dg (nv l')).getD i 0 : Nat) : Int) % 4294967296).toNat]), (show i + 1 ≤ _ by omega), (show (-((((dg (nv l)).getD i 0 : Nat) - (b : Nat) - ((dg (nv l')).getD i 0 : Nat) : Int) / 4294967296)).toNat ≤ 1 by omega), hlo.append (Lim.cons (show ((((dg (nv l)).getD i 0 : Nat) - (b : Nat) - ((dg (nv l')).getD i 0 : Nat) : Int) % 4294967296).toNat < 4294967296 by omega) Lim.nil), (show (out ++ [_]).length = i + 1 by simp [hol]), sub_step hol hinv rfl rfl (show ((((dg (nv l)).getD i 0 : Nat) - (b : Nat) - ((dg (nv l')).getD i 0 : Nat) : Int) % 4294967296).toNat + (dg (nv l')).getD i 0 + b = (dg (nv l)).getD i 0 + 4294967296 * (-((((dg (nv l)).getD i 0 : Nat) - (b : Nat) - ((dg (nv l')).getD i 0 : Nat) : Int) / 4294967296)).toNat by omega)⟩ (And.intro (show (dg (nv l)).length - (i + 1) < (dg (nv l)).length - i by omega) ?_)
            repeat first | exact trivial | refine And.intro rfl ?_ | refine And.intro trivial ?_ | refine And.intro (And.intro rfl trivial) ?_ | refine And.intro (And.intro rfl (And.intro rfl trivial)) ?_
            · refine And.intro (And.intro (rwN ?_) trivial) ?_
              · show (out ++ List.replicate ((dg (nv l)).length - i) 0).set i (IntKind.u32.wrap (IntKind.u64.wrap (IntKind.u64.wrap (IntKind.u64.wrap (((dg (nv l)).getD (i : Int).toNat 0 : Nat) : Int) - (b : Nat)) - IntKind.u64.wrap (((dg (nv l')).getD (i : Int).toNat 0 : Nat) : Int)))).toNat = (out ++ [((((dg (nv l)).getD i 0 : Nat) - (b : Nat) - ((dg (nv l')).getD i 0 : Nat) : Int) % 4294967296).toNat]) ++ List.replicate ((dg (nv l)).length - (i + 1)) 0
                rw [e32, Int.toNat_natCast]
                subst hol
                exact set_mid out _ _ (by omega)
              · repeat first | exact trivial | refine And.intro rfl ?_ | refine And.intro trivial ?_ | refine And.intro (And.intro rfl trivial) ?_ | refine And.intro (And.intro rfl (And.intro rfl trivial)) ?_
                refine And.intro (avI eb) ?_
                repeat first | exact trivial | refine And.intro rfl ?_ | refine And.intro trivial ?_ | refine And.intro (And.intro rfl trivial) ?_ | refine And.intro (And.intro rfl (And.intro rfl trivial)) ?_
                exact And.intro (avI (show IntKind.i64.wrap ((i : Int) + 1) = ((i + 1 : Nat) : Int) by rw [wI (by omega) (by omega)]; omega)) trivial
          · have hd' : ¬ (i : Int) < (dg (nv l')).length := of_decide_eq_false hd
            have hz := getD_end (dg (nv l')) i (by omega)
            have ed : IntKind.u64.wrap (IntKind.u64.wrap (((dg (nv l)).getD (i : Int).toNat 0 : Nat) : Int) - (b : Nat)) = (((dg (nv l)).getD i 0 : Nat) - (b : Nat) - ((dg (nv l')).getD i 0 : Nat) : Int) % 18446744073709551616 := by
              simp only [wU64, Int.toNat_natCast]
              omega
            have e32 : IntKind.u32.wrap (IntKind.u64.wrap (IntKind.u64.wrap (((dg (nv l)).getD (i : Int).toNat 0 : Nat) : Int) - (b : Nat))) = ((((((dg (nv l)).getD i 0 : Nat) - (b : Nat) - ((dg (nv l')).getD i 0 : Nat) : Int) % 4294967296).toNat : Nat) : Int) := by rw [ed, wU32]; omega
            have eb : Int.fdiv (IntKind.u64.wrap (IntKind.u64.wrap (((dg (nv l)).getD (i : Int).toNat 0 : Nat) : Int) - (b : Nat))) (2 ^ min (63 : Int).toNat IntKind.u64.bits) = (((-((((dg (nv l)).getD i 0 : Nat) - (b : Nat) - ((dg (nv l')).getD i 0 : Nat) : Int) / 4294967296)).toNat : Nat) : Int) := by rw [ed, fdiv63]; omega
            repeat first | refine And.intro rfl ?_ | refine Or.inl (And.intro rfl ?_) | refine Or.inr (And.intro rfl ?_) | refine And.intro (fun (_ : true = true) => ?_) (fun (h : true = false) => Bool.noConfusion h) | refine And.intro (fun (h : false = true) => Bool.noConfusion h) (fun (_ : false = false) => ?_)
            refine And.intro (show 0 ≤ (i : Int) ∧ (i : Int) < (out ++ List.replicate ((dg (nv l)).length - i) 0).length by rw [hrl]; omega) ?_
            repeat first | refine And.intro rfl ?_ | refine Or.inl (And.intro rfl ?_) | refine Or.inr (And.intro rfl ?_) | refine And.intro (fun (_ : true = true) => ?_) (fun (h : true = false) => Bool.noConfusion h) | refine And.intro (fun (h : false = true) => Bool.noConfusion h) (fun (_ : false = false) => ?_)
            refine And.intro (show (i : Int).toNat < (out ++ List.replicate ((dg (nv l)).length - i) 0).length ∧ 0 ≤ IntKind.u32.wrap (IntKind.u64.wrap (IntKind.u64.wrap (((dg (nv l)).getD (i : Int).toNat 0 : Nat) : Int) - (b : Nat))) ∧ IntKind.u32.wrap (IntKind.u64.wrap (IntKind.u64.wrap (((dg (nv l)).getD (i : Int).toNat 0 : Nat) : Int) - (b : Nat))) < 4294967296 by rw [hrl, e32]; omega) ?_
            repeat first | refine And.intro rfl ?_ | refine Or.inl (And.intro rfl ?_) | refine Or.inr (And.intro rfl ?_) | refine And.intro (fun (_ : true = true) => ?_) (fun (h : true = false) => Bool.noConfusion h) | refine And.intro (fun (h : false = true) => Bool.noConfusion h) (fun (_ : false = false) => ?_)
            refine And.intro (show 0 ≤ (63 : Int) by decide) ?_
            repeat first | refine And.intro rfl ?_ | refine Or.inl (And.intro rfl ?_) | refine Or.inr (And.intro rfl ?_) | refine And.intro (fun (_ : true = true) => ?_) (fun (h : true = false) => Bool.noConfusion h) | refine And.intro (fun (h : false = true) => Bool.noConfusion h) (fun (_ : false = false) => ?_)
            refine Exists.intro ⟨(i + 1, (-((((dg (nv l)).getD i 0 : Nat) - (b : Nat) - ((dg (nv l')).getD i 0 : Nat) : Int) / 4294967296)).toNat, out ++ [((((dg (nv l)).getD i 0 : Nat) - (b : Nat) - ((dg (nv l')).getD i 0 : Nat) : Int) % 4294967296).toNat]), (show i + 1 ≤ _ by omega), (show (-((((dg (nv l)).getD i 0 : Nat) - (b : Nat) - ((dg (nv l')).getD i 0 : Nat) : Int) / 4294967296)).toNat ≤ 1 by omega), hlo.append (Lim.cons (show ((((dg (nv l)).getD i 0 : Nat) - (b : Nat) - ((dg (nv l')).getD i 0 : Nat) : Int) % 4294967296).toNat < 4294967296 by omega) Lim.nil), (show (out ++ [_]).length = i + 1 by simp [hol]), sub_step hol hinv rfl rfl (show ((((dg (nv l)).getD i 0 : Nat) - (b : Nat) - ((dg (nv l')).getD i 0 : Nat) : Int) % 4294967296).toNat + (dg (nv l')).getD i 0 + b = (dg (nv l)).getD i 0 + 4294967296 * (-((((dg (nv l)).getD i 0 : Nat) - (b : Nat) - ((dg (nv l')).getD i 0 : Nat) : Int) / 4294967296)).toNat by omega)⟩ (And.intro (show (dg (nv l)).length - (i + 1) < (dg (nv l)).length - i by omega) ?_)
            repeat first | exact trivial | refine And.intro rfl ?_ | refine And.intro trivial ?_ | refine And.intro (And.intro rfl trivial) ?_ | refine And.intro (And.intro rfl (And.intro rfl trivial)) ?_
            · refine And.intro (And.intro (rwN ?_) trivial) ?_
              · show (out ++ List.replicate ((dg (nv l)).length - i) 0).set i (IntKind.u32.wrap (IntKind.u64.wrap (IntKind.u64.wrap (((dg (nv l)).getD (i : Int).toNat 0 : Nat) : Int) - (b : Nat)))).toNat = (out ++ [((((dg (nv l)).getD i 0 : Nat) - (b : Nat) - ((dg (nv l')).getD i 0 : Nat) : Int) % 4294967296).toNat]) ++ List.replicate ((dg (nv l)).length - (i + 1)) 0
                rw [e32, Int.toNat_natCast]
                subst hol
                exact set_mid out _ _ (by omega)
              · repeat first | exact trivial | refine And.intro rfl ?_ | refine And.intro trivial ?_ | refine And.intro (And.intro rfl trivial) ?_ | refine And.intro (And.intro rfl (And.intro rfl trivial)) ?_
                refine And.intro (avI eb) ?_
                repeat first | exact trivial | refine And.intro rfl ?_ | refine And.intro trivial ?_ | refine And.intro (And.intro rfl trivial) ?_ | refine And.intro (And.intro rfl (And.intro rfl trivial)) ?_
                exact And.intro (avI (show IntKind.i64.wrap ((i : Int) + 1) = ((i + 1 : Nat) : Int) by rw [wI (by omega) (by omega)]; omega)) trivial
        · have hi' : ¬ (i : Int) < (dg (nv l)).length := of_decide_eq_false hc
          have hi2 : i = (dg (nv l)).length := by omega
          repeat first | refine And.intro rfl ?_ | refine Or.inl (And.intro rfl ?_) | refine Or.inr (And.intro rfl ?_) | refine And.intro (fun (_ : true = true) => ?_) (fun (h : true = false) => Bool.noConfusion h) | refine And.intro (fun (h : false = true) => Bool.noConfusion h) (fun (_ : false = false) => ?_)
          refine And.intro (show (out ++ List.replicate ((dg (nv l)).length - i) 0).length ≤ 1000000 by rw [hrl]; omega) ?_
          refine resT (congrArg dg ?_) (by simp; omega)
          show nv (out ++ List.replicate ((dg (nv l)).length - i) 0) = nv l - nv l'
          rw [take_end _ _ (by omega), take_end _ _ (by omega), nv_dg, nv_dg] at hinv
          rw [nv_append, nv_replicate, Nat.mul_zero, Nat.add_zero]
          have h3 := nv_lt hlo
          rw [hol] at h3
          rcases Nat.eq_zero_or_pos b with h0 | h0
          · subst h0
            omega
          · have : b = 1 := by omega
            subst this
            omega
  · cases h

end Go.Gm
