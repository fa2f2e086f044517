/-
  The natural numbers of the program, part F: Mul. Plain theorems; no condition.
-/
import Derived.Test.YtihmifpdnipdmaaNatE
set_option linter.all false
namespace Go.Gm
open Go.Proofs

theorem nv_set (l : List Nat) (j v : Nat) (hj : j < l.length) : nv (l.set j v) + B ^ j * l.getD j 0 = nv l + B ^ j * v := by
  induction l generalizing j with
  | nil => simp at hj
  | cons x l ih =>
    cases j with
    | zero => simp [nv]; omega
    | succ j =>
      have := ih j (by simpa using hj)
      simp only [List.set_cons_succ, nv, List.getD_cons_succ, Nat.pow_succ]
      have e := congrArg (fun z => B * z) this
      simp only [Nat.mul_add] at e
      have e1 : B ^ j * B * l.getD j 0 = B * (B ^ j * l.getD j 0) := by rw [Nat.mul_comm (B ^ j) B, Nat.mul_assoc]
      have e2 : B ^ j * B * v = B * (B ^ j * v) := by rw [Nat.mul_comm (B ^ j) B, Nat.mul_assoc]
      rw [e1, e2]
      omega

/-- One step of the inner loop of a multiplication. -/
theorem mul_step {r q : List Nat} {r0 i k c x : Nat} (hj : i + k < r.length) (h : nv r + B ^ (i + k) * c = r0 + B ^ i * x * nv (q.take k)) (t : Nat) (ht : t = c + (x * q.getD k 0 + r.getD (i + k) 0)) :
    nv (r.set (i + k) (t % B)) + B ^ (i + (k + 1)) * (t / B) = r0 + B ^ i * x * nv (q.take (k + 1)) := by
  have h1 := nv_set r (i + k) (t % B) hj
  have e := congrArg (fun z => B ^ (i + k) * z) (Nat.mod_add_div t B)
  simp only [Nat.mul_add] at e
  rw [← Nat.mul_assoc, ← Nat.pow_succ] at e
  rw [nv_take_getD', Nat.mul_add, show i + (k + 1) = (i + k).succ from rfl]
  have e3 : B ^ i * x * (B ^ k * q.getD k 0) = B ^ (i + k) * (x * q.getD k 0) := by
    rw [Nat.pow_add]
    simp only [Nat.mul_assoc, Nat.mul_left_comm, Nat.mul_comm]
  rw [e3]
  have e4 := congrArg (fun z => B ^ (i + k) * z) ht
  simp only [Nat.mul_add] at e4
  omega

theorem getD_app (r s : List Nat) (j : Nat) (hj : j < r.length) : (r ++ s).getD j 0 = r.getD j 0 := by
  simp only [List.getD_eq_getElem?_getD, List.getElem?_append_left hj]

def sMul : List RV → Option (Prop × Res)
  | [.one (.b (.nat l)), .one (.b (.nat l'))] => some (l.length ≤ 100000 ∧ l'.length ≤ 100000, .r (.one (.nat (dg (nv l * nv l')))))
  | _ => none

set_option maxHeartbeats 1000000 in
theorem ok_natMul : Ok1 134 sMul := by
  refine ok_of TD0_ok Try.func134 rfl (by kernel_rfl) ?_
  intro xs pre res h hp hlim
  unfold sMul at h
  split at h
  · rename_i l l'
    cases h
    obtain ⟨hl, hl', _⟩ := hlim
    have hl : Lim l := hl
    have hl' : Lim l' := hl'
    have hd := dg_nv_len hl
    have hd' := dg_nv_len hl'
    have hw : IntKind.i64.wrap (((dg (nv l)).length : Int) + ((dg (nv l')).length : Int)) = (((dg (nv l)).length + (dg (nv l')).length : Nat) : Int) := by rw [wI (by omega) (by omega)]; omega
    refine And.intro (Nat.le_of_ble_eq_true rfl) ?_
    repeat first | refine And.intro rfl ?_ | refine Or.inl (And.intro rfl ?_) | refine Or.inr (And.intro rfl ?_) | refine And.intro (fun (_ : true = true) => ?_) (fun (h : true = false) => Bool.noConfusion h) | refine And.intro (fun (h : false = true) => Bool.noConfusion h) (fun (_ : false = false) => ?_)
    refine And.intro (show l.length ≤ 1000000 by omega) ?_
    repeat first | refine And.intro rfl ?_ | refine Or.inl (And.intro rfl ?_) | refine Or.inr (And.intro rfl ?_) | refine And.intro (fun (_ : true = true) => ?_) (fun (h : true = false) => Bool.noConfusion h) | refine And.intro (fun (h : false = true) => Bool.noConfusion h) (fun (_ : false = false) => ?_)
    refine And.intro (show l'.length ≤ 1000000 by omega) ?_
    repeat first | refine And.intro rfl ?_ | refine Or.inl (And.intro rfl ?_) | refine Or.inr (And.intro rfl ?_) | refine And.intro (fun (_ : true = true) => ?_) (fun (h : true = false) => Bool.noConfusion h) | refine And.intro (fun (h : false = true) => Bool.noConfusion h) (fun (_ : false = false) => ?_)
    refine And.intro (show 0 ≤ IntKind.i64.wrap (((dg (nv l)).length : Int) + ((dg (nv l')).length : Int)) ∧ IntKind.i64.wrap (((dg (nv l)).length : Int) + ((dg (nv l')).length : Int)) ≤ IntKind.i64.wrap (((dg (nv l)).length : Int) + ((dg (nv l')).length : Int)) ∧ IntKind.i64.wrap (((dg (nv l)).length : Int) + ((dg (nv l')).length : Int)) ≤ 1000000 by rw [hw]; omega) ?_
    repeat first | refine And.intro rfl ?_ | refine Or.inl (And.intro rfl ?_) | refine Or.inr (And.intro rfl ?_) | refine And.intro (fun (_ : true = true) => ?_) (fun (h : true = false) => Bool.noConfusion h) | refine And.intro (fun (h : false = true) => Bool.noConfusion h) (fun (_ : false = false) => ?_)
    refine Exists.intro {s : Nat × List Nat // s.1 ≤ (dg (nv l)).length ∧ Lim s.2 ∧ s.2.length = s.1 + (dg (nv l')).length ∧ nv s.2 = nv ((dg (nv l)).take s.1) * nv l'} (Exists.intro (fun s => ⟨[(0, .one (.nat (dg (nv l)))), (1, .one (.nat (dg (nv l')))), (5, .own 0), (21, .one (.nat (dg (nv l)))), (22, .val (.int .i64 ((dg (nv l)).length : Nat))), (23, .val (.int .i64 (s.1.1 : Nat)))], ⟨[], [.n 128 (s.1.2 ++ List.replicate ((dg (nv l)).length - s.1.1) 0)]⟩⟩) (Exists.intro (fun s => (dg (nv l)).length - s.1.1) (Exists.intro ⟨(0, List.replicate (dg (nv l')).length 0), by simp [nv_replicate, Lim.replicate, nv]⟩ (And.intro ?_ ?_))))
    · repeat first | exact trivial | refine And.intro rfl ?_ | refine And.intro trivial ?_ | refine And.intro (And.intro rfl trivial) ?_ | refine And.intro (And.intro rfl (And.intro rfl trivial)) ?_
      refine And.intro (And.intro (rwN ?_) trivial) ?_
      · show List.replicate (IntKind.i64.wrap (((dg (nv l)).length : Int) + ((dg (nv l')).length : Int))).toNat 0 = List.replicate (dg (nv l')).length 0 ++ List.replicate ((dg (nv l)).length - 0) 0
        rw [hw, Int.toNat_natCast, List.replicate_append_replicate]
        congr 1
        omega
      · repeat first | exact trivial | refine And.intro rfl ?_ | refine And.intro trivial ?_ | refine And.intro (And.intro rfl trivial) ?_ | refine And.intro (And.intro rfl (And.intro rfl trivial)) ?_
    · rintro ⟨⟨i, rr⟩, hi, hlr, hrl, hinv⟩
      simp only at hi hlr hrl hinv
      repeat first | refine And.intro rfl ?_ | refine Or.inl (And.intro rfl ?_) | refine Or.inr (And.intro rfl ?_) | refine And.intro (fun (_ : true = true) => ?_) (fun (h : true = false) => Bool.noConfusion h) | refine And.intro (fun (h : false = true) => Bool.noConfusion h) (fun (_ : false = false) => ?_)
      refine And.intro (fun hc => ?_) (fun hc => ?_)
      · have hi' : (i : Int) < (dg (nv l)).length := of_decide_eq_true hc
        have hx : (dg (nv l)).getD i 0 < 4294967296 := (dg_lim (nv l)).getD i
        repeat first | refine And.intro rfl ?_ | refine Or.inl (And.intro rfl ?_) | refine Or.inr (And.intro rfl ?_) | refine And.intro (fun (_ : true = true) => ?_) (fun (h : true = false) => Bool.noConfusion h) | refine And.intro (fun (h : false = true) => Bool.noConfusion h) (fun (_ : false = false) => ?_)
        refine And.intro (show 0 ≤ (i : Int) ∧ (i : Int) < (dg (nv l)).length by omega) ?_
        repeat first | refine And.intro rfl ?_ | refine Or.inl (And.intro rfl ?_) | refine Or.inr (And.intro rfl ?_) | refine And.intro (fun (_ : true = true) => ?_) (fun (h : true = false) => Bool.noConfusion h) | refine And.intro (fun (h : false = true) => Bool.noConfusion h) (fun (_ : false = false) => ?_)
        refine Exists.intro {s : Nat × Nat × List Nat // s.1 ≤ (dg (nv l')).length ∧ s.2.1 < 4294967296 ∧ Lim s.2.2 ∧ s.2.2.length = i + (dg (nv l')).length ∧ nv s.2.2 + B ^ (i + s.1) * s.2.1 = nv rr + B ^ i * (dg (nv l)).getD i 0 * nv ((dg (nv l')).take s.1)} (Exists.intro (fun s => ⟨[(0, .one (.nat (dg (nv l)))), (1, .one (.nat (dg (nv l')))), (5, .own 0), (6, .val (.int .i64 (i : Nat))), (7, .val (.int .u32 ((dg (nv l)).getD i 0 : Nat))), (8, .val (.int .u64 (s.1.2.1 : Nat))), (21, .one (.nat (dg (nv l)))), (22, .val (.int .i64 ((dg (nv l)).length : Nat))), (23, .val (.int .i64 (i : Nat))), (28, .one (.nat (dg (nv l')))), (29, .val (.int .i64 ((dg (nv l')).length : Nat))), (30, .val (.int .i64 (s.1.1 : Nat)))], ⟨[], [.n 128 (s.1.2.2 ++ List.replicate ((dg (nv l)).length - i) 0)]⟩⟩) (Exists.intro (fun s => (dg (nv l')).length - s.1.1) (Exists.intro ⟨(0, 0, rr), (show 0 ≤ _ from Nat.zero_le _), (show 0 < 4294967296 by decide), hlr, hrl, (by simp [nv])⟩ (And.intro ?_ ?_))))
        · repeat first | exact trivial | refine And.intro rfl ?_ | refine And.intro trivial ?_ | refine And.intro (And.intro rfl trivial) ?_ | refine And.intro (And.intro rfl (And.intro rfl trivial)) ?_
        · rintro ⟨⟨k, c, r⟩, hk, hc1, hlo, hol, hinv2⟩
          simp only at hk hc1 hlo hol hinv2
          have hrow : (r ++ List.replicate ((dg (nv l)).length - i) 0).length = (dg (nv l)).length + (dg (nv l')).length := by simp; omega
          repeat first | refine And.intro rfl ?_ | refine Or.inl (And.intro rfl ?_) | refine Or.inr (And.intro rfl ?_) | refine And.intro (fun (_ : true = true) => ?_) (fun (h : true = false) => Bool.noConfusion h) | refine And.intro (fun (h : false = true) => Bool.noConfusion h) (fun (_ : false = false) => ?_)
          refine And.intro (fun hc => ?_) (fun hc => ?_)
          · have hk' : (k : Int) < (dg (nv l')).length := of_decide_eq_true hc
            have hy : (dg (nv l')).getD k 0 < 4294967296 := (dg_lim (nv l')).getD k
            have hz : (dg (nv l)).getD i 0 * (dg (nv l')).getD k 0 ≤ 4294967295 * 4294967295 := Nat.mul_le_mul (by omega) (by omega)
            have ho : r.getD (i + k) 0 < 4294967296 := hlo.getD (i + k)
            have hik : IntKind.i64.wrap ((i : Int) + (k : Int)) = ((i + k : Nat) : Int) := by rw [wI (by omega) (by omega)]; omega
            obtain ⟨T, hT⟩ : ∃ T, T = c + ((dg (nv l)).getD i 0 * (dg (nv l')).getD k 0 + r.getD (i + k) 0) := ⟨_, rfl⟩
            have hT1 : T < 18446744073709551616 := by omega
            have e32 : IntKind.u32.wrap ((T : Nat) : Int) = ((T % 4294967296 : Nat) : Int) := by rw [wU32]; omega
            have ec : IntKind.u64.wrap ((c : Int) + IntKind.u64.wrap (IntKind.u64.wrap (IntKind.u64.wrap (((dg (nv l)).getD i 0 : Nat) : Int) * IntKind.u64.wrap (((dg (nv l')).getD (k : Int).toNat 0 : Nat) : Int)) + IntKind.u64.wrap (((r ++ List.replicate ((dg (nv l)).length - i) 0).getD (IntKind.i64.wrap ((i : Int) + (k : Int))).toNat 0 : Nat) : Int))) = ((T : Nat) : Int) := by
              rw [hT, hik, Int.toNat_natCast, Int.toNat_natCast, getD_app _ _ _ (by omega)]
              rw [wU (x := (((dg (nv l)).getD i 0 : Nat) : Int)) (by omega) (by omega), wU (x := (((dg (nv l')).getD k 0 : Nat) : Int)) (by omega) (by omega), ← Int.natCast_mul]
              simp only [wU64]
              generalize (dg (nv l)).getD i 0 * (dg (nv l')).getD k 0 = z at *
              omega
            repeat first | refine And.intro rfl ?_ | refine Or.inl (And.intro rfl ?_) | refine Or.inr (And.intro rfl ?_) | refine And.intro (fun (_ : true = true) => ?_) (fun (h : true = false) => Bool.noConfusion h) | refine And.intro (fun (h : false = true) => Bool.noConfusion h) (fun (_ : false = false) => ?_)
            refine And.intro (show 0 ≤ (k : Int) ∧ (k : Int) < (dg (nv l')).length by omega) ?_
            repeat first | refine And.intro rfl ?_ | refine Or.inl (And.intro rfl ?_) | refine Or.inr (And.intro rfl ?_) | refine And.intro (fun (_ : true = true) => ?_) (fun (h : true = false) => Bool.noConfusion h) | refine And.intro (fun (h : false = true) => Bool.noConfusion h) (fun (_ : false = false) => ?_)
            refine And.intro (show 0 ≤ IntKind.i64.wrap ((i : Int) + (k : Int)) ∧ IntKind.i64.wrap ((i : Int) + (k : Int)) < (r ++ List.replicate ((dg (nv l)).length - i) 0).length by rw [hik, hrow]; omega) ?_
            repeat first | refine And.intro rfl ?_ | refine Or.inl (And.intro rfl ?_) | refine Or.inr (And.intro rfl ?_) | refine And.intro (fun (_ : true = true) => ?_) (fun (h : true = false) => Bool.noConfusion h) | refine And.intro (fun (h : false = true) => Bool.noConfusion h) (fun (_ : false = false) => ?_)
            refine And.intro (show (IntKind.i64.wrap ((i : Int) + (k : Int))).toNat < (r ++ List.replicate ((dg (nv l)).length - i) 0).length by rw [hik, hrow]; omega) ?_
            repeat first | refine And.intro rfl ?_ | refine Or.inl (And.intro rfl ?_) | refine Or.inr (And.intro rfl ?_) | refine And.intro (fun (_ : true = true) => ?_) (fun (h : true = false) => Bool.noConfusion h) | refine And.intro (fun (h : false = true) => Bool.noConfusion h) (fun (_ : false = false) => ?_)
            refine And.intro (show 0 ≤ IntKind.i64.wrap ((i : Int) + (k : Int)) ∧ IntKind.i64.wrap ((i : Int) + (k : Int)) < (r ++ List.replicate ((dg (nv l)).length - i) 0).length by rw [hik, hrow]; omega) ?_
            repeat first | refine And.intro rfl ?_ | refine Or.inl (And.intro rfl ?_) | refine Or.inr (And.intro rfl ?_) | refine And.intro (fun (_ : true = true) => ?_) (fun (h : true = false) => Bool.noConfusion h) | refine And.intro (fun (h : false = true) => Bool.noConfusion h) (fun (_ : false = false) => ?_)
            refine And.intro (show (IntKind.i64.wrap ((i : Int) + (k : Int))).toNat < (r ++ List.replicate ((dg (nv l)).length - i) 0).length ∧ 0 ≤ IntKind.u32.wrap _ ∧ IntKind.u32.wrap _ < 4294967296 by rw [ec, e32, hik, hrow]; omega) ?_
            repeat first | refine And.intro rfl ?_ | refine Or.inl (And.intro rfl ?_) | refine Or.inr (And.intro rfl ?_) | refine And.intro (fun (_ : true = true) => ?_) (fun (h : true = false) => Bool.noConfusion h) | refine And.intro (fun (h : false = true) => Bool.noConfusion h) (fun (_ : false = false) => ?_)
            refine And.intro (show 0 ≤ (32 : Int) by decide) ?_
            repeat first | refine And.intro rfl ?_ | refine Or.inl (And.intro rfl ?_) | refine Or.inr (And.intro rfl ?_) | refine And.intro (fun (_ : true = true) => ?_) (fun (h : true = false) => Bool.noConfusion h) | refine And.intro (fun (h : false = true) => Bool.noConfusion h) (fun (_ : false = false) => ?_)
            refine Exists.intro ⟨(k + 1, T / 4294967296, r.set (i + k) (T % 4294967296)), (show k + 1 ≤ _ by omega), (show T / 4294967296 < 4294967296 by omega), hlo.set (i + k) (show T % 4294967296 < 4294967296 by omega), (show (r.set _ _).length = _ by rw [List.length_set]; exact hol), mul_step (by omega) hinv2 T hT⟩ (And.intro (show (dg (nv l')).length - (k + 1) < (dg (nv l')).length - k by omega) ?_)
            repeat first | exact trivial | refine And.intro rfl ?_ | refine And.intro trivial ?_ | refine And.intro (And.intro rfl trivial) ?_ | refine And.intro (And.intro rfl (And.intro rfl trivial)) ?_
            refine And.intro (And.intro (rwN ?_) trivial) ?_
            · show (r ++ List.replicate ((dg (nv l)).length - i) 0).set (IntKind.i64.wrap ((i : Int) + (k : Int))).toNat (IntKind.u32.wrap _).toNat = r.set (i + k) (T % 4294967296) ++ List.replicate ((dg (nv l)).length - i) 0
              rw [ec, e32, hik, Int.toNat_natCast, Int.toNat_natCast, List.set_append_left _ _ (by omega)]
            · repeat first | exact trivial | refine And.intro rfl ?_ | refine And.intro trivial ?_ | refine And.intro (And.intro rfl trivial) ?_ | refine And.intro (And.intro rfl (And.intro rfl trivial)) ?_
              refine And.intro (avI (show Int.fdiv (IntKind.u64.wrap _) (2 ^ min (32 : Int).toNat IntKind.u64.bits) = ((T / 4294967296 : Nat) : Int) by rw [ec, fdiv32]; omega)) ?_
              repeat first | exact trivial | refine And.intro rfl ?_ | refine And.intro trivial ?_ | refine And.intro (And.intro rfl trivial) ?_ | refine And.intro (And.intro rfl (And.intro rfl trivial)) ?_
              exact And.intro (avI (show IntKind.i64.wrap ((k : Int) + 1) = ((k + 1 : Nat) : Int) by rw [wI (by omega) (by omega)]; omega)) trivial
          · have hk' : ¬ (k : Int) < (dg (nv l')).length := of_decide_eq_false hc
            have hkm : k = (dg (nv l')).length := by omega
            have him : IntKind.i64.wrap ((i : Int) + ((dg (nv l')).length : Int)) = ((i + (dg (nv l')).length : Nat) : Int) := by rw [wI (by omega) (by omega)]; omega
            have e32 : IntKind.u32.wrap ((c : Nat) : Int) = ((c : Nat) : Int) := by rw [wU32]; omega
            repeat first | refine And.intro rfl ?_ | refine Or.inl (And.intro rfl ?_) | refine Or.inr (And.intro rfl ?_) | refine And.intro (fun (_ : true = true) => ?_) (fun (h : true = false) => Bool.noConfusion h) | refine And.intro (fun (h : false = true) => Bool.noConfusion h) (fun (_ : false = false) => ?_)
            refine And.intro (show 0 ≤ IntKind.i64.wrap ((i : Int) + ((dg (nv l')).length : Int)) ∧ IntKind.i64.wrap ((i : Int) + ((dg (nv l')).length : Int)) < (r ++ List.replicate ((dg (nv l)).length - i) 0).length by rw [him, hrow]; omega) ?_
            repeat first | refine And.intro rfl ?_ | refine Or.inl (And.intro rfl ?_) | refine Or.inr (And.intro rfl ?_) | refine And.intro (fun (_ : true = true) => ?_) (fun (h : true = false) => Bool.noConfusion h) | refine And.intro (fun (h : false = true) => Bool.noConfusion h) (fun (_ : false = false) => ?_)
            refine And.intro (show (IntKind.i64.wrap ((i : Int) + ((dg (nv l')).length : Int))).toNat < (r ++ List.replicate ((dg (nv l)).length - i) 0).length ∧ 0 ≤ IntKind.u32.wrap ((c : Nat) : Int) ∧ IntKind.u32.wrap ((c : Nat) : Int) < 4294967296 by rw [e32, him, hrow]; omega) ?_
            repeat first | refine And.intro rfl ?_ | refine Or.inl (And.intro rfl ?_) | refine Or.inr (And.intro rfl ?_) | refine And.intro (fun (_ : true = true) => ?_) (fun (h : true = false) => Bool.noConfusion h) | refine And.intro (fun (h : false = true) => Bool.noConfusion h) (fun (_ : false = false) => ?_)
            refine Exists.intro ⟨(i + 1, r ++ [c]), (show i + 1 ≤ _ by omega), hlo.append (Lim.cons hc1 Lim.nil), (show (r ++ [c]).length = _ by simp; omega), ?_⟩ (And.intro (show (dg (nv l)).length - (i + 1) < (dg (nv l)).length - i by omega) ?_)
            · show nv (r ++ [c]) = nv ((dg (nv l)).take (i + 1)) * nv l'
              rw [nv_snoc, hol, ← hkm, hinv2, take_end _ _ (by omega), nv_dg, hinv, nv_take_getD', Nat.add_mul]
            · repeat first | exact trivial | refine And.intro rfl ?_ | refine And.intro trivial ?_ | refine And.intro (And.intro rfl trivial) ?_ | refine And.intro (And.intro rfl (And.intro rfl trivial)) ?_
              refine And.intro (And.intro (rwN ?_) trivial) ?_
              · show (r ++ List.replicate ((dg (nv l)).length - i) 0).set (IntKind.i64.wrap ((i : Int) + ((dg (nv l')).length : Int))).toNat (IntKind.u32.wrap ((c : Nat) : Int)).toNat = (r ++ [c]) ++ List.replicate ((dg (nv l)).length - (i + 1)) 0
                rw [e32, him, Int.toNat_natCast, Int.toNat_natCast, ← hol, set_mid r _ _ (by omega)]
                congr 1
              · repeat first | exact trivial | refine And.intro rfl ?_ | refine And.intro trivial ?_ | refine And.intro (And.intro rfl trivial) ?_ | refine And.intro (And.intro rfl (And.intro rfl trivial)) ?_
                exact And.intro (avI (show IntKind.i64.wrap ((i : Int) + 1) = ((i + 1 : Nat) : Int) by rw [wI (by omega) (by omega)]; omega)) trivial
      · have hi' : ¬ (i : Int) < (dg (nv l)).length := of_decide_eq_false hc
        repeat first | refine And.intro rfl ?_ | refine Or.inl (And.intro rfl ?_) | refine Or.inr (And.intro rfl ?_) | refine And.intro (fun (_ : true = true) => ?_) (fun (h : true = false) => Bool.noConfusion h) | refine And.intro (fun (h : false = true) => Bool.noConfusion h) (fun (_ : false = false) => ?_)
        refine And.intro (show (rr ++ List.replicate ((dg (nv l)).length - i) 0).length ≤ 1000000 by simp; omega) ?_
        refine resN (congrArg dg ?_)
        show nv (rr ++ List.replicate ((dg (nv l)).length - i) 0) = nv l * nv l'
        rw [nv_append, nv_replicate, Nat.mul_zero, Nat.add_zero, hinv, take_end _ _ (by omega), nv_dg]
  · cases h

end Go.Gm
