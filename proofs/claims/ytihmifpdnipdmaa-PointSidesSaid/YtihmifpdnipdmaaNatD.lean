/-
  The natural numbers of the program, part D: Add, Sub. Plain theorems; no condition.
-/
import Derived.Test.YtihmifpdnipdmaaNatC
set_option linter.all false
namespace Go.Gm
open Go.Proofs

theorem nv_take_getD (l : List Nat) (k : Nat) (hk : k < l.length) : nv (l.take (k + 1)) = nv (l.take k) + B ^ k * l.getD k 0 := by
  rw [nv_take_succ l k hk, List.getD_eq_getElem?_getD, List.getElem?_eq_getElem hk]
  rfl
theorem take_end (l : List Nat) (k : Nat) (hk : l.length ≤ k) : l.take k = l := List.take_of_length_le hk
theorem getD_end (l : List Nat) (k : Nat) (hk : l.length ≤ k) : l.getD k 0 = 0 := by rw [List.getD_eq_getElem?_getD, List.getElem?_eq_none hk]; rfl
theorem nv_take_getD' (l : List Nat) (k : Nat) : nv (l.take (k + 1)) = nv (l.take k) + B ^ k * l.getD k 0 := by
  rcases Nat.lt_or_ge k l.length with h | h
  · exact nv_take_getD l k h
  · rw [take_end l _ (by omega), take_end l _ h, getD_end l k h]; simp

/-- One step of an addition. -/
theorem add_step {p q out : List Nat} {i c : Nat} (hlen : out.length = i) (h : nv out + B ^ i * c = nv (p.take i) + nv (q.take i)) :
    nv (out ++ [(c + p.getD i 0 + q.getD i 0) % B]) + B ^ (i + 1) * ((c + p.getD i 0 + q.getD i 0) / B) = nv (p.take (i + 1)) + nv (q.take (i + 1)) := by
  rw [nv_snoc, hlen, nv_take_getD', nv_take_getD', Nat.pow_succ]
  generalize p.getD i 0 = x
  generalize q.getD i 0 = y
  have e := Nat.mod_add_div (c + x + y) B
  have : B ^ i * ((c + x + y) % B) + B ^ i * B * ((c + x + y) / B) = B ^ i * (c + x + y) := by
    rw [Nat.mul_assoc, ← Nat.mul_add, e]
  rw [Nat.mul_add, Nat.mul_add] at this
  omega

def TD0 : Table := [(168, sTrim), (153, sCmp)]
theorem TD0_ok : TabOk TD0 := TabOk.cons ok_trim (TabOk.cons ok_natCmp TabOk.nil)

def sAdd : List RV → Option (Prop × Res)
  | [.one (.b (.nat l)), .one (.b (.nat l'))] => some (l.length ≤ 100000 ∧ l'.length ≤ 100000, .r (.one (.nat (dg (nv l + nv l')))))
  | _ => none

theorem fdiv32 (n : Int) : n.fdiv (2 ^ min (32 : Int).toNat IntKind.u64.bits) = n / 4294967296 := by
  rw [show (2 : Int) ^ min (32 : Int).toNat IntKind.u64.bits = 4294967296 by decide, Int.fdiv_eq_ediv_of_nonneg _ (by decide)]
theorem fdiv63 (n : Int) : n.fdiv (2 ^ min (63 : Int).toNat IntKind.u64.bits) = n / 9223372036854775808 := by
  rw [show (2 : Int) ^ min (63 : Int).toNat IntKind.u64.bits = 9223372036854775808 by decide, Int.fdiv_eq_ediv_of_nonneg _ (by decide)]


theorem ok_natAdd : Ok1 166 sAdd := by
  refine ok_of TD0_ok Try.func166 rfl (by kernel_rfl) ?_
  intro xs pre res h hp hlim
  unfold sAdd at h
  split at h
  · rename_i l l'
    cases h
    obtain ⟨hl, hl', _⟩ := hlim
    have hl : Lim l := hl
    have hl' : Lim l' := hl'
    have hd := dg_nv_len hl
    have hd' := dg_nv_len hl'
    refine And.intro (Nat.le_of_ble_eq_true rfl) ?_
    repeat first | refine And.intro rfl ?_ | refine Or.inl (And.intro rfl ?_) | refine Or.inr (And.intro rfl ?_) | refine And.intro (fun (_ : true = true) => ?_) (fun (h : true = false) => Bool.noConfusion h) | refine And.intro (fun (h : false = true) => Bool.noConfusion h) (fun (_ : false = false) => ?_)
    refine And.intro (show l.length ≤ 1000000 by omega) ?_
    repeat first | refine And.intro rfl ?_ | refine Or.inl (And.intro rfl ?_) | refine Or.inr (And.intro rfl ?_) | refine And.intro (fun (_ : true = true) => ?_) (fun (h : true = false) => Bool.noConfusion h) | refine And.intro (fun (h : false = true) => Bool.noConfusion h) (fun (_ : false = false) => ?_)
    refine And.intro (show l'.length ≤ 1000000 by omega) ?_
    repeat first | refine And.intro rfl ?_ | refine Or.inl (And.intro rfl ?_) | refine Or.inr (And.intro rfl ?_) | refine And.intro (fun (_ : true = true) => ?_) (fun (h : true = false) => Bool.noConfusion h) | refine And.intro (fun (h : false = true) => Bool.noConfusion h) (fun (_ : false = false) => ?_)
    refine And.intro (fun hc => ?_) (fun hc => ?_)
    · have hlt : ((dg (nv l)).length : Int) < (dg (nv l')).length := of_decide_eq_true hc
      rw [Nat.add_comm]
      repeat first | refine And.intro rfl ?_ | refine Or.inl (And.intro rfl ?_) | refine Or.inr (And.intro rfl ?_) | refine And.intro (fun (_ : true = true) => ?_) (fun (h : true = false) => Bool.noConfusion h) | refine And.intro (fun (h : false = true) => Bool.noConfusion h) (fun (_ : false = false) => ?_)
      refine And.intro (show 0 ≤ (0 : Int) ∧ (0 : Int) ≤ IntKind.i64.wrap (((dg (nv l')).length : Int) + 1) ∧ IntKind.i64.wrap (((dg (nv l')).length : Int) + 1) ≤ 1000000 by rw [wI (by omega) (by omega)]; omega) ?_
      repeat first | refine And.intro rfl ?_ | refine Or.inl (And.intro rfl ?_) | refine Or.inr (And.intro rfl ?_) | refine And.intro (fun (_ : true = true) => ?_) (fun (h : true = false) => Bool.noConfusion h) | refine And.intro (fun (h : false = true) => Bool.noConfusion h) (fun (_ : false = false) => ?_)
      refine Exists.intro {s : Nat × Nat × List Nat // s.1 ≤ (dg (nv l')).length ∧ s.2.1 ≤ 1 ∧ Lim s.2.2 ∧ s.2.2.length = s.1 ∧ nv s.2.2 + B ^ s.1 * s.2.1 = nv ((dg (nv l')).take s.1) + nv ((dg (nv l)).take s.1)} (Exists.intro (fun s => ⟨[(0, .one (.nat (dg (nv l')))), (1, .one (.nat (dg (nv l)))), (5, .own 0), (6, .val (.int .u64 (s.1.2.1 : Nat))), (24, .one (.nat (dg (nv l')))), (25, .val (.int .i64 ((dg (nv l')).length : Nat))), (26, .val (.int .i64 (s.1.1 : Nat)))], ⟨[], [.n 128 s.1.2.2]⟩⟩) (Exists.intro (fun s => (dg (nv l')).length - s.1.1) (Exists.intro ⟨(0, 0, []), by simp [nv, Lim.nil]⟩ (And.intro ?_ ?_))))
      · repeat first | exact trivial | refine And.intro rfl ?_ | refine And.intro trivial ?_ | refine And.intro (And.intro rfl trivial) ?_ | refine And.intro (And.intro rfl (And.intro rfl trivial)) ?_
      · rintro ⟨⟨i, c, out⟩, hi, hc1, hlo, hol, hinv⟩
        simp only at hi hc1 hlo hol hinv
        repeat first | refine And.intro rfl ?_ | refine Or.inl (And.intro rfl ?_) | refine Or.inr (And.intro rfl ?_) | refine And.intro (fun (_ : true = true) => ?_) (fun (h : true = false) => Bool.noConfusion h) | refine And.intro (fun (h : false = true) => Bool.noConfusion h) (fun (_ : false = false) => ?_)
        refine And.intro (fun hc => ?_) (fun hc => ?_)
        · have hi' : (i : Int) < (dg (nv l')).length := of_decide_eq_true hc
          have hx := (dg_lim (nv l')).getD i
          have hy := (dg_lim (nv l)).getD i
          have hB := B_eq
          repeat first | refine And.intro rfl ?_ | refine Or.inl (And.intro rfl ?_) | refine Or.inr (And.intro rfl ?_) | refine And.intro (fun (_ : true = true) => ?_) (fun (h : true = false) => Bool.noConfusion h) | refine And.intro (fun (h : false = true) => Bool.noConfusion h) (fun (_ : false = false) => ?_)
          refine And.intro (show 0 ≤ (i : Int) ∧ (i : Int) < (dg (nv l')).length by omega) ?_
          repeat first | refine And.intro rfl ?_ | refine Or.inl (And.intro rfl ?_) | refine Or.inr (And.intro rfl ?_) | refine And.intro (fun (_ : true = true) => ?_) (fun (h : true = false) => Bool.noConfusion h) | refine And.intro (fun (h : false = true) => Bool.noConfusion h) (fun (_ : false = false) => ?_)
          refine And.intro (fun hd => ?_) (fun hd => ?_)
          · have hd' : (i : Int) < (dg (nv l)).length := of_decide_eq_true hd
            have ec : IntKind.u64.wrap (IntKind.u64.wrap ((c : Int) + IntKind.u64.wrap (((dg (nv l')).getD (i : Int).toNat 0 : Nat) : Int)) + IntKind.u64.wrap (((dg (nv l)).getD (i : Int).toNat 0 : Nat) : Int)) = ((c + (dg (nv l')).getD i 0 + (dg (nv l)).getD i 0 : Nat) : Int) := by
              simp only [wU64, Int.toNat_natCast]
              omega
            have e32 : IntKind.u32.wrap ((c + (dg (nv l')).getD i 0 + (dg (nv l)).getD i 0 : Nat) : Int) = (((c + (dg (nv l')).getD i 0 + (dg (nv l)).getD i 0) % 4294967296 : Nat) : Int) := by rw [wU32]; omega
            repeat first | refine And.intro rfl ?_ | refine Or.inl (And.intro rfl ?_) | refine Or.inr (And.intro rfl ?_) | refine And.intro (fun (_ : true = true) => ?_) (fun (h : true = false) => Bool.noConfusion h) | refine And.intro (fun (h : false = true) => Bool.noConfusion h) (fun (_ : false = false) => ?_)
            refine And.intro (show 0 ≤ (i : Int) ∧ (i : Int) < (dg (nv l)).length by omega) ?_
            repeat first | refine And.intro rfl ?_ | refine Or.inl (And.intro rfl ?_) | refine Or.inr (And.intro rfl ?_) | refine And.intro (fun (_ : true = true) => ?_) (fun (h : true = false) => Bool.noConfusion h) | refine And.intro (fun (h : false = true) => Bool.noConfusion h) (fun (_ : false = false) => ?_)
            refine And.intro (And.intro (show 0 ≤ IntKind.u32.wrap _ ∧ IntKind.u32.wrap _ < 4294967296 by rw [ec, e32]; omega) trivial) ?_
            repeat first | refine And.intro rfl ?_ | refine Or.inl (And.intro rfl ?_) | refine Or.inr (And.intro rfl ?_) | refine And.intro (fun (_ : true = true) => ?_) (fun (h : true = false) => Bool.noConfusion h) | refine And.intro (fun (h : false = true) => Bool.noConfusion h) (fun (_ : false = false) => ?_)
            refine And.intro (show out.length + 1 ≤ 1000000 by omega) ?_
            repeat first | refine And.intro rfl ?_ | refine Or.inl (And.intro rfl ?_) | refine Or.inr (And.intro rfl ?_) | refine And.intro (fun (_ : true = true) => ?_) (fun (h : true = false) => Bool.noConfusion h) | refine And.intro (fun (h : false = true) => Bool.noConfusion h) (fun (_ : false = false) => ?_)
            refine And.intro (show 0 ≤ (32 : Int) by decide) ?_
            repeat first | refine And.intro rfl ?_ | refine Or.inl (And.intro rfl ?_) | refine Or.inr (And.intro rfl ?_) | refine And.intro (fun (_ : true = true) => ?_) (fun (h : true = false) => Bool.noConfusion h) | refine And.intro (fun (h : false = true) => Bool.noConfusion h) (fun (_ : false = false) => ?_)
            refine Exists.intro ⟨(i + 1, (c + (dg (nv l')).getD i 0 + (dg (nv l)).getD i 0) / 4294967296, out ++ [(c + (dg (nv l')).getD i 0 + (dg (nv l)).getD i 0) % 4294967296]), (show i + 1 ≤ _ by omega), (show (c + (dg (nv l')).getD i 0 + (dg (nv l)).getD i 0) / 4294967296 ≤ 1 by omega), hlo.append (Lim.cons (Nat.mod_lt _ B_pos) Lim.nil), (show (out ++ _).length = i + 1 by simp [hol]), add_step hol hinv⟩ (And.intro (show (dg (nv l')).length - (i + 1) < (dg (nv l')).length - i by omega) ?_)
            repeat first | exact trivial | refine And.intro rfl ?_ | refine And.intro trivial ?_ | refine And.intro (And.intro rfl trivial) ?_ | refine And.intro (And.intro rfl (And.intro rfl trivial)) ?_
            · refine And.intro (And.intro ?_ trivial) ?_
              · show Rw.n _ (out ++ [(IntKind.u32.wrap _).toNat]) = Rw.n _ _
                rw [ec, e32, Int.toNat_natCast]
              · repeat first | exact trivial | refine And.intro rfl ?_ | refine And.intro trivial ?_ | refine And.intro (And.intro rfl trivial) ?_ | refine And.intro (And.intro rfl (And.intro rfl trivial)) ?_
                refine And.intro (avI (show Int.fdiv (IntKind.u64.wrap _) (2 ^ min (32 : Int).toNat IntKind.u64.bits) = (((c + (dg (nv l')).getD i 0 + (dg (nv l)).getD i 0) / 4294967296 : Nat) : Int) by rw [ec, fdiv32]; omega)) ?_
                · repeat first | exact trivial | refine And.intro rfl ?_ | refine And.intro trivial ?_ | refine And.intro (And.intro rfl trivial) ?_ | refine And.intro (And.intro rfl (And.intro rfl trivial)) ?_
                  exact And.intro (avI (show IntKind.i64.wrap ((i : Int) + 1) = ((i + 1 : Nat) : Int) by rw [wI (by omega) (by omega)]; omega)) trivial
          · have hd' : ¬ (i : Int) < (dg (nv l)).length := of_decide_eq_false hd
            have hz := getD_end (dg (nv l)) i (by omega)
            have ec : IntKind.u64.wrap ((c : Int) + IntKind.u64.wrap (((dg (nv l')).getD (i : Int).toNat 0 : Nat) : Int)) = ((c + (dg (nv l')).getD i 0 + (dg (nv l)).getD i 0 : Nat) : Int) := by
              simp only [wU64, Int.toNat_natCast]
              omega
            have e32 : IntKind.u32.wrap ((c + (dg (nv l')).getD i 0 + (dg (nv l)).getD i 0 : Nat) : Int) = (((c + (dg (nv l')).getD i 0 + (dg (nv l)).getD i 0) % 4294967296 : Nat) : Int) := by rw [wU32]; omega
            repeat first | refine And.intro rfl ?_ | refine Or.inl (And.intro rfl ?_) | refine Or.inr (And.intro rfl ?_) | refine And.intro (fun (_ : true = true) => ?_) (fun (h : true = false) => Bool.noConfusion h) | refine And.intro (fun (h : false = true) => Bool.noConfusion h) (fun (_ : false = false) => ?_)
            refine And.intro (And.intro (show 0 ≤ IntKind.u32.wrap _ ∧ IntKind.u32.wrap _ < 4294967296 by rw [ec, e32]; omega) trivial) ?_
            repeat first | refine And.intro rfl ?_ | refine Or.inl (And.intro rfl ?_) | refine Or.inr (And.intro rfl ?_) | refine And.intro (fun (_ : true = true) => ?_) (fun (h : true = false) => Bool.noConfusion h) | refine And.intro (fun (h : false = true) => Bool.noConfusion h) (fun (_ : false = false) => ?_)
            refine And.intro (show out.length + 1 ≤ 1000000 by omega) ?_
            repeat first | refine And.intro rfl ?_ | refine Or.inl (And.intro rfl ?_) | refine Or.inr (And.intro rfl ?_) | refine And.intro (fun (_ : true = true) => ?_) (fun (h : true = false) => Bool.noConfusion h) | refine And.intro (fun (h : false = true) => Bool.noConfusion h) (fun (_ : false = false) => ?_)
            refine And.intro (show 0 ≤ (32 : Int) by decide) ?_
            repeat first | refine And.intro rfl ?_ | refine Or.inl (And.intro rfl ?_) | refine Or.inr (And.intro rfl ?_) | refine And.intro (fun (_ : true = true) => ?_) (fun (h : true = false) => Bool.noConfusion h) | refine And.intro (fun (h : false = true) => Bool.noConfusion h) (fun (_ : false = false) => ?_)
            refine Exists.intro ⟨(i + 1, (c + (dg (nv l')).getD i 0 + (dg (nv l)).getD i 0) / 4294967296, out ++ [(c + (dg (nv l')).getD i 0 + (dg (nv l)).getD i 0) % 4294967296]), (show i + 1 ≤ _ by omega), (show (c + (dg (nv l')).getD i 0 + (dg (nv l)).getD i 0) / 4294967296 ≤ 1 by omega), hlo.append (Lim.cons (Nat.mod_lt _ B_pos) Lim.nil), (show (out ++ _).length = i + 1 by simp [hol]), add_step hol hinv⟩ (And.intro (show (dg (nv l')).length - (i + 1) < (dg (nv l')).length - i by omega) ?_)
            repeat first | exact trivial | refine And.intro rfl ?_ | refine And.intro trivial ?_ | refine And.intro (And.intro rfl trivial) ?_ | refine And.intro (And.intro rfl (And.intro rfl trivial)) ?_
            · refine And.intro (And.intro ?_ trivial) ?_
              · show Rw.n _ (out ++ [(IntKind.u32.wrap _).toNat]) = Rw.n _ _
                rw [ec, e32, Int.toNat_natCast]
              · repeat first | exact trivial | refine And.intro rfl ?_ | refine And.intro trivial ?_ | refine And.intro (And.intro rfl trivial) ?_ | refine And.intro (And.intro rfl (And.intro rfl trivial)) ?_
                refine And.intro (avI (show Int.fdiv (IntKind.u64.wrap _) (2 ^ min (32 : Int).toNat IntKind.u64.bits) = (((c + (dg (nv l')).getD i 0 + (dg (nv l)).getD i 0) / 4294967296 : Nat) : Int) by rw [ec, fdiv32]; omega)) ?_
                · repeat first | exact trivial | refine And.intro rfl ?_ | refine And.intro trivial ?_ | refine And.intro (And.intro rfl trivial) ?_ | refine And.intro (And.intro rfl (And.intro rfl trivial)) ?_
                  exact And.intro (avI (show IntKind.i64.wrap ((i : Int) + 1) = ((i + 1 : Nat) : Int) by rw [wI (by omega) (by omega)]; omega)) trivial
        · have hi' : ¬ (i : Int) < (dg (nv l')).length := of_decide_eq_false hc
          have e32 : IntKind.u32.wrap ((c : Nat) : Int) = ((c : Nat) : Int) := by rw [wU32]; omega
          repeat first | refine And.intro rfl ?_ | refine Or.inl (And.intro rfl ?_) | refine Or.inr (And.intro rfl ?_) | refine And.intro (fun (_ : true = true) => ?_) (fun (h : true = false) => Bool.noConfusion h) | refine And.intro (fun (h : false = true) => Bool.noConfusion h) (fun (_ : false = false) => ?_)
          refine And.intro (And.intro (show 0 ≤ IntKind.u32.wrap ((c : Nat) : Int) ∧ IntKind.u32.wrap ((c : Nat) : Int) < 4294967296 by rw [e32]; omega) trivial) ?_
          repeat first | refine And.intro rfl ?_ | refine Or.inl (And.intro rfl ?_) | refine Or.inr (And.intro rfl ?_) | refine And.intro (fun (_ : true = true) => ?_) (fun (h : true = false) => Bool.noConfusion h) | refine And.intro (fun (h : false = true) => Bool.noConfusion h) (fun (_ : false = false) => ?_)
          refine And.intro (show out.length + 1 ≤ 1000000 by omega) ?_
          repeat first | refine And.intro rfl ?_ | refine Or.inl (And.intro rfl ?_) | refine Or.inr (And.intro rfl ?_) | refine And.intro (fun (_ : true = true) => ?_) (fun (h : true = false) => Bool.noConfusion h) | refine And.intro (fun (h : false = true) => Bool.noConfusion h) (fun (_ : false = false) => ?_)
          refine And.intro (show (out ++ [(IntKind.u32.wrap ((c : Nat) : Int)).toNat]).length ≤ 1000000 by simp; omega) ?_
          refine resN (congrArg dg ?_)
          show nv (out ++ [(IntKind.u32.wrap ((c : Nat) : Int)).toNat]) = (nv l') + (nv l)
          rw [e32, Int.toNat_natCast, nv_snoc, hol, hinv, take_end _ _ (by omega), take_end _ _ (by omega), nv_dg, nv_dg]
    · have hlt : ¬ ((dg (nv l)).length : Int) < (dg (nv l')).length := of_decide_eq_false hc
      repeat first | refine And.intro rfl ?_ | refine Or.inl (And.intro rfl ?_) | refine Or.inr (And.intro rfl ?_) | refine And.intro (fun (_ : true = true) => ?_) (fun (h : true = false) => Bool.noConfusion h) | refine And.intro (fun (h : false = true) => Bool.noConfusion h) (fun (_ : false = false) => ?_)
      refine And.intro (show 0 ≤ (0 : Int) ∧ (0 : Int) ≤ IntKind.i64.wrap (((dg (nv l)).length : Int) + 1) ∧ IntKind.i64.wrap (((dg (nv l)).length : Int) + 1) ≤ 1000000 by rw [wI (by omega) (by omega)]; omega) ?_
      repeat first | refine And.intro rfl ?_ | refine Or.inl (And.intro rfl ?_) | refine Or.inr (And.intro rfl ?_) | refine And.intro (fun (_ : true = true) => ?_) (fun (h : true = false) => Bool.noConfusion h) | refine And.intro (fun (h : false = true) => Bool.noConfusion h) (fun (_ : false = false) => ?_)
      refine Exists.intro {s : Nat × Nat × List Nat // s.1 ≤ (dg (nv l)).length ∧ s.2.1 ≤ 1 ∧ Lim s.2.2 ∧ s.2.2.length = s.1 ∧ nv s.2.2 + B ^ s.1 * s.2.1 = nv ((dg (nv l)).take s.1) + nv ((dg (nv l')).take s.1)} (Exists.intro (fun s => ⟨[(0, .one (.nat (dg (nv l)))), (1, .one (.nat (dg (nv l')))), (5, .own 0), (6, .val (.int .u64 (s.1.2.1 : Nat))), (24, .one (.nat (dg (nv l)))), (25, .val (.int .i64 ((dg (nv l)).length : Nat))), (26, .val (.int .i64 (s.1.1 : Nat)))], ⟨[], [.n 128 s.1.2.2]⟩⟩) (Exists.intro (fun s => (dg (nv l)).length - s.1.1) (Exists.intro ⟨(0, 0, []), by simp [nv, Lim.nil]⟩ (And.intro ?_ ?_))))
      · repeat first | exact trivial | refine And.intro rfl ?_ | refine And.intro trivial ?_ | refine And.intro (And.intro rfl trivial) ?_ | refine And.intro (And.intro rfl (And.intro rfl trivial)) ?_
      · rintro ⟨⟨i, c, out⟩, hi, hc1, hlo, hol, hinv⟩
        simp only at hi hc1 hlo hol hinv
        repeat first | refine And.intro rfl ?_ | refine Or.inl (And.intro rfl ?_) | refine Or.inr (And.intro rfl ?_) | refine And.intro (fun (_ : true = true) => ?_) (fun (h : true = false) => Bool.noConfusion h) | refine And.intro (fun (h : false = true) => Bool.noConfusion h) (fun (_ : false = false) => ?_)
        refine And.intro (fun hc => ?_) (fun hc => ?_)
        · have hi' : (i : Int) < (dg (nv l)).length := of_decide_eq_true hc
          have hx := (dg_lim (nv l)).getD i
          have hy := (dg_lim (nv l')).getD i
          have hB := B_eq
          repeat first | refine And.intro rfl ?_ | refine Or.inl (And.intro rfl ?_) | refine Or.inr (And.intro rfl ?_) | refine And.intro (fun (_ : true = true) => ?_) (fun (h : true = false) => Bool.noConfusion h) | refine And.intro (fun (h : false = true) => Bool.noConfusion h) (fun (_ : false = false) => ?_)
          refine And.intro (show 0 ≤ (i : Int) ∧ (i : Int) < (dg (nv l)).length by omega) ?_
          repeat first | refine And.intro rfl ?_ | refine Or.inl (And.intro rfl ?_) | refine Or.inr (And.intro rfl ?_) | refine And.intro (fun (_ : true = true) => ?_) (fun (h : true = false) => Bool.noConfusion h) | refine And.intro (fun (h : false = true) => Bool.noConfusion h) (fun (_ : false = false) => ?_)
          refine And.intro (fun hd => ?_) (fun hd => ?_)
          · have hd' : (i : Int) < (dg (nv l')).length := of_decide_eq_true hd
            have ec : IntKind.u64.wrap (IntKind.u64.wrap ((c : Int) + IntKind.u64.wrap (((dg (nv l)).getD (i : Int).toNat 0 : Nat) : Int)) + IntKind.u64.wrap (((dg (nv l')).getD (i : Int).toNat 0 : Nat) : Int)) = ((c + (dg (nv l)).getD i 0 + (dg (nv l')).getD i 0 : Nat) : Int) := by
              simp only [wU64, Int.toNat_natCast]
              omega
            have e32 : IntKind.u32.wrap ((c + (dg (nv l)).getD i 0 + (dg (nv l')).getD i 0 : Nat) : Int) = (((c + (dg (nv l)).getD i 0 + (dg (nv l')).getD i 0) % 4294967296 : Nat) : Int) := by rw [wU32]; omega
            repeat first | refine And.intro rfl ?_ | refine Or.inl (And.intro rfl ?_) | refine Or.inr (And.intro rfl ?_) | refine And.intro (fun (_ : true = true) => ?_) (fun (h : true = false) => Bool.noConfusion h) | refine And.intro (fun (h : false = true) => Bool.noConfusion h) (fun (_ : false = false) => ?_)
            refine And.intro (show 0 ≤ (i : Int) ∧ (i : Int) < (dg (nv l')).length by omega) ?_
            repeat first | refine And.intro rfl ?_ | refine Or.inl (And.intro rfl ?_) | refine Or.inr (And.intro rfl ?_) | refine And.intro (fun (_ : true = true) => ?_) (fun (h : true = false) => Bool.noConfusion h) | refine And.intro (fun (h : false = true) => Bool.noConfusion h) (fun (_ : false = false) => ?_)
            refine And.intro (And.intro (show 0 ≤ IntKind.u32.wrap _ ∧ IntKind.u32.wrap _ < 4294967296 by rw [ec, e32]; omega) trivial) ?_
            repeat first | refine And.intro rfl ?_ | refine Or.inl (And.intro rfl ?_) | refine Or.inr (And.intro rfl ?_) | refine And.intro (fun (_ : true = true) => ?_) (fun (h : true = false) => Bool.noConfusion h) | refine And.intro (fun (h : false = true) => Bool.noConfusion h) (fun (_ : false = false) => ?_)
            refine And.intro (show out.length + 1 ≤ 1000000 by omega) ?_
            repeat first | refine And.intro rfl ?_ | refine Or.inl (And.intro rfl ?_) | refine Or.inr (And.intro rfl ?_) | refine And.intro (fun (_ : true = true) => ?_) (fun (h : true = false) => Bool.noConfusion h) | refine And.intro (fun (h : false = true) => Bool.noConfusion h) (fun (_ : false = false) => ?_)
            refine And.intro (show 0 ≤ (32 : Int) by decide) ?_
            repeat first | refine And.intro rfl ?_ | refine Or.inl (And.intro rfl ?_) | refine Or.inr (And.intro rfl ?_) | refine And.intro (fun (_ : true = true) => ?_) (fun (h : true = false) => Bool.noConfusion h) | refine And.intro (fun (h : false = true) => Bool.noConfusion h) (fun (_ : false = false) => ?_)
            refine Exists.intro ⟨(i + 1, (c + (dg (nv l)).getD i 0 + (dg (nv l')).getD i 0) / 4294967296, out ++ [(c + (dg (nv l)).getD i 0 + (dg (nv l')).getD i 0) % 4294967296]), (show i + 1 ≤ _ by omega), (show (c + (dg (nv l)).getD i 0 + (dg (nv l')).getD i 0) / 4294967296 ≤ 1 by omega), hlo.append (Lim.cons (Nat.mod_lt _ B_pos) Lim.nil), (show (out ++ _).length = i + 1 by simp [hol]), add_step hol hinv⟩ (And.intro (show (dg (nv l)).length - (i + 1) < (dg (nv l)).length - i by omega) ?_)
            repeat first | exact trivial | refine And.intro rfl ?_ | refine And.intro trivial ?_ | refine And.intro (And.intro rfl trivial) ?_ | refine And.intro (And.intro rfl (And.intro rfl trivial)) ?_
            · refine And.intro (And.intro ?_ trivial) ?_
              · show Rw.n _ (out ++ [(IntKind.u32.wrap _).toNat]) = Rw.n _ _
                rw [ec, e32, Int.toNat_natCast]
              · repeat first | exact trivial | refine And.intro rfl ?_ | refine And.intro trivial ?_ | refine And.intro (And.intro rfl trivial) ?_ | refine And.intro (And.intro rfl (And.intro rfl trivial)) ?_
                refine And.intro (avI (show Int.fdiv (IntKind.u64.wrap _) (2 ^ min (32 : Int).toNat IntKind.u64.bits) = (((c + (dg (nv l)).getD i 0 + (dg (nv l')).getD i 0) / 4294967296 : Nat) : Int) by rw [ec, fdiv32]; omega)) ?_
                · repeat first | exact trivial | refine And.intro rfl ?_ | refine And.intro trivial ?_ | refine And.intro (And.intro rfl trivial) ?_ | refine And.intro (And.intro rfl (And.intro rfl trivial)) ?_
                  exact And.intro (avI (show IntKind.i64.wrap ((i : Int) + 1) = ((i + 1 : Nat) : Int) by rw [wI (by omega) (by omega)]; omega)) trivial
          · have hd' : ¬ (i : Int) < (dg (nv l')).length := of_decide_eq_false hd
            have hz := getD_end (dg (nv l')) i (by omega)
            have ec : IntKind.u64.wrap ((c : Int) + IntKind.u64.wrap (((dg (nv l)).getD (i : Int).toNat 0 : Nat) : Int)) = ((c + (dg (nv l)).getD i 0 + (dg (nv l')).getD i 0 : Nat) : Int) := by
              simp only [wU64, Int.toNat_natCast]
              omega
            have e32 : IntKind.u32.wrap ((c + (dg (nv l)).getD i 0 + (dg (nv l')).getD i 0 : Nat) : Int) = (((c + (dg (nv l)).getD i 0 + (dg (nv l')).getD i 0) % 4294967296 : Nat) : Int) := by rw [wU32]; omega
            repeat first | refine And.intro rfl ?_ | refine Or.inl (And.intro rfl ?_) | refine Or.inr (And.intro rfl ?_) | refine And.intro (fun (_ : true = true) => ?_) (fun (h : true = false) => Bool.noConfusion h) | refine And.intro (fun (h : false = true) => Bool.noConfusion h) (fun (_ : false = false) => ?_)
            refine And.intro (And.intro (show 0 ≤ IntKind.u32.wrap _ ∧ IntKind.u32.wrap _ < 4294967296 by rw [ec, e32]; omega) trivial) ?_
            repeat first | refine And.intro rfl ?_ | refine Or.inl (And.intro rfl ?_) | refine Or.inr (And.intro rfl ?_) | refine And.intro (fun (_ : true = true) => ?_) (fun (h : true = false) => Bool.noConfusion h) | refine And.intro (fun (h : false = true) => Bool.noConfusion h) (fun (_ : false = false) => ?_)
            refine And.intro (show out.length + 1 ≤ 1000000 by omega) ?_
            repeat first | refine And.intro rfl ?_ | refine Or.inl (And.intro rfl ?_) | refine Or.inr (And.intro rfl ?_) | refine And.intro (fun (_ : true = true) => ?_) (fun (h : true = false) => Bool.noConfusion h) | refine And.intro (fun (h : false = true) => Bool.noConfusion h) (fun (_ : false = false) => ?_)
            refine And.intro (show 0 ≤ (32 : Int) by decide) ?_
            repeat first | refine And.intro rfl ?_ | refine Or.inl (And.intro rfl ?_) | refine Or.inr (And.intro rfl ?_) | refine And.intro (fun (_ : true = true) => ?_) (fun (h : true = false) => Bool.noConfusion h) | refine And.intro (fun (h : false = true) => Bool.noConfusion h) (fun (_ : false = false) => ?_)
            refine Exists.intro ⟨(i + 1, (c + (dg (nv l)).getD i 0 + (dg (nv l')).getD i 0) / 4294967296, out ++ [(c + (dg (nv l)).getD i 0 + (dg (nv l')).getD i 0) % 4294967296]), (show i + 1 ≤ _ by omega), (show (c + (dg (nv l)).getD i 0 + (dg (nv l')).getD i 0) / 4294967296 ≤ 1 by omega), hlo.append (Lim.cons (Nat.mod_lt _ B_pos) Lim.nil), (show (out ++ _).length = i + 1 by simp [hol]), add_step hol hinv⟩ (And.intro (show (dg (nv l)).length - (i + 1) < (dg (nv l)).length - i by omega) ?_)
            repeat first | exact trivial | refine And.intro rfl ?_ | refine And.intro trivial ?_ | refine And.intro (And.intro rfl trivial) ?_ | refine And.intro (And.intro rfl (And.intro rfl trivial)) ?_
            · refine And.intro (And.intro ?_ trivial) ?_
              · show Rw.n _ (out ++ [(IntKind.u32.wrap _).toNat]) = Rw.n _ _
                rw [ec, e32, Int.toNat_natCast]
              · repeat first | exact trivial | refine And.intro rfl ?_ | refine And.intro trivial ?_ | refine And.intro (And.intro rfl trivial) ?_ | refine And.intro (And.intro rfl (And.intro rfl trivial)) ?_
                refine And.intro (avI (show Int.fdiv (IntKind.u64.wrap _) (2 ^ min (32 : Int).toNat IntKind.u64.bits) = (((c + (dg (nv l)).getD i 0 + (dg (nv l')).getD i 0) / 4294967296 : Nat) : Int) by rw [ec, fdiv32]; omega)) ?_
                · repeat first | exact trivial | refine And.intro rfl ?_ | refine And.intro trivial ?_ | refine And.intro (And.intro rfl trivial) ?_ | refine And.intro (And.intro rfl (And.intro rfl trivial)) ?_
                  exact And.intro (avI (show IntKind.i64.wrap ((i : Int) + 1) = ((i + 1 : Nat) : Int) by rw [wI (by omega) (by omega)]; omega)) trivial
        · have hi' : ¬ (i : Int) < (dg (nv l)).length := of_decide_eq_false hc
          have e32 : IntKind.u32.wrap ((c : Nat) : Int) = ((c : Nat) : Int) := by rw [wU32]; omega
          repeat first | refine And.intro rfl ?_ | refine Or.inl (And.intro rfl ?_) | refine Or.inr (And.intro rfl ?_) | refine And.intro (fun (_ : true = true) => ?_) (fun (h : true = false) => Bool.noConfusion h) | refine And.intro (fun (h : false = true) => Bool.noConfusion h) (fun (_ : false = false) => ?_)
          refine And.intro (And.intro (show 0 ≤ IntKind.u32.wrap ((c : Nat) : Int) ∧ IntKind.u32.wrap ((c : Nat) : Int) < 4294967296 by rw [e32]; omega) trivial) ?_
          repeat first | refine And.intro rfl ?_ | refine Or.inl (And.intro rfl ?_) | refine Or.inr (And.intro rfl ?_) | refine And.intro (fun (_ : true = true) => ?_) (fun (h : true = false) => Bool.noConfusion h) | refine And.intro (fun (h : false = true) => Bool.noConfusion h) (fun (_ : false = false) => ?_)
          refine And.intro (show out.length + 1 ≤ 1000000 by omega) ?_
          repeat first | refine And.intro rfl ?_ | refine Or.inl (And.intro rfl ?_) | refine Or.inr (And.intro rfl ?_) | refine And.intro (fun (_ : true = true) => ?_) (fun (h : true = false) => Bool.noConfusion h) | refine And.intro (fun (h : false = true) => Bool.noConfusion h) (fun (_ : false = false) => ?_)
          refine And.intro (show (out ++ [(IntKind.u32.wrap ((c : Nat) : Int)).toNat]).length ≤ 1000000 by simp; omega) ?_
          refine resN (congrArg dg ?_)
          show nv (out ++ [(IntKind.u32.wrap ((c : Nat) : Int)).toNat]) = (nv l) + (nv l')
          rw [e32, Int.toNat_natCast, nv_snoc, hol, hinv, take_end _ _ (by omega), take_end _ _ (by omega), nv_dg, nv_dg]
  · cases h

end Go.Gm
