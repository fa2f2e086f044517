/-
  The natural numbers of the program, part R: the shift to the right. Plain theorems; no condition.
-/
import Derived.Test.YtihmifpdnipdmaaNatK
set_option linter.all false
namespace Go.Gm
open Go.Proofs

theorem lk_snoc : ∀ (k n : Nat), lk (k + 1) n = lk k n ++ [n / B ^ k % B]
  | 0, n => by simp [lk]
  | k + 1, n => by
    have := lk_snoc k (n / B)
    show n % B :: lk (k + 1) (n / B) = n % B :: lk k (n / B) ++ [_]
    rw [this, Nat.div_div_eq_div_mul, ← Nat.pow_succ']
    rfl

theorem nv_div_pow : ∀ (l : List Nat) (i : Nat), Lim l → nv l / B ^ i = nv (l.drop i)
  | l, 0, _ => by simp
  | [], i + 1, _ => by simp [nv]
  | x :: l, i + 1, h => by
    rw [Nat.pow_succ', ← Nat.div_div_eq_div_mul]
    have hx : x < B := h.head
    show (x + B * nv l) / B / B ^ i = nv (l.drop i)
    rw [Nat.add_mul_div_left _ _ B_pos, Nat.div_eq_of_lt hx, Nat.zero_add]
    exact nv_div_pow l i h.tail

theorem nv_drop2 (l : List Nat) (i : Nat) (h : i < l.length) : ∃ r, nv (l.drop i) = l.getD i 0 + B * l.getD (i + 1) 0 + B * B * r := by
  rw [List.drop_eq_getElem_cons h]
  have e1 : l.getD i 0 = l[i] := by simp [List.getD_eq_getElem?_getD, h]
  by_cases h2 : i + 1 < l.length
  · rw [List.drop_eq_getElem_cons h2]
    have e2 : l.getD (i + 1) 0 = l[i + 1] := by simp [List.getD_eq_getElem?_getD, h2]
    refine ⟨nv (l.drop (i + 1 + 1)), ?_⟩
    rw [e1, e2]
    show l[i] + B * (l[i + 1] + B * nv (l.drop (i + 1 + 1))) = _
    rw [Nat.mul_add, Nat.mul_assoc]
    omega
  · refine ⟨0, ?_⟩
    rw [List.drop_eq_nil_of_le (by omega), e1]
    have e2 : l.getD (i + 1) 0 = 0 := by simp [List.getD_eq_getElem?_getD, List.getElem?_eq_none (show l.length ≤ i + 1 by omega)]
    rw [e2]
    simp [nv]

theorem right_step (l : List Nat) (i s : Nat) {Y : Nat} (hs : s < 32) (hl : Lim l) (hi : i < l.length) (hY : Y = l.getD i 0 + 4294967296 * l.getD (i + 1) 0) : nv l / 2 ^ s / B ^ i % B = Y / 2 ^ s % 4294967296 := by
  rw [Nat.div_div_eq_div_mul, Nat.mul_comm, ← Nat.div_div_eq_div_mul, nv_div_pow l i hl]
  obtain ⟨r, hr⟩ := nv_drop2 l i hi
  have e : B * B * r = 2 ^ s * (4294967296 * (2 ^ (32 - s) * r)) := by
    have e32 : 2 ^ s * 2 ^ (32 - s) = 4294967296 := by rw [← Nat.pow_add, show s + (32 - s) = 32 by omega]
    calc B * B * r = 4294967296 * (4294967296 * r) := by rw [B_eq, Nat.mul_assoc]
      _ = 4294967296 * (2 ^ s * 2 ^ (32 - s) * r) := by rw [e32]
      _ = _ := by simp only [Nat.mul_assoc, Nat.mul_left_comm]
  rw [hr, e, B_eq, ← hY, Nat.add_mul_div_left _ _ (Nat.pos_of_ne_zero (by simp)), Nat.add_mul_mod_self_left]

theorem bits_or_comm (x y : Int) : bits .or .u64 x y = bits .or .u64 y x := by
  show IntKind.u64.wrap ((BitVec.ofInt 64 x ||| BitVec.ofInt 64 y).toNat : Int) = IntKind.u64.wrap ((BitVec.ofInt 64 y ||| BitVec.ofInt 64 x).toNat : Int)
  rw [BitVec.or_comm]

def sRight : List RV → Option (Prop × Res)
  | [.one (.b (.nat l)), .one (.b (.val (.int .i64 s)))] => some (l.length ≤ 100000 ∧ 0 ≤ s ∧ s < 32, .r (.one (.nat (dg (nv l / 2 ^ s.toNat)))))
  | _ => none

set_option maxHeartbeats 1000000 in
theorem ok_right : Ok1 178 sRight := by
  refine ok_of TD0_ok Try.func178 rfl (by kernel_rfl) ?_
  intro xs pre res h hp hlim
  unfold sRight at h
  split at h
  · rename_i l ss
    cases h
    have hl : Lim l := hlim.1
    obtain ⟨hp1, hp2, hp3⟩ := hp
    obtain ⟨s, rfl⟩ : ∃ s : Nat, ss = (s : Int) := ⟨ss.toNat, by omega⟩
    rw [Int.toNat_natCast]
    refine And.intro (Nat.le_of_ble_eq_true rfl) ?_
    repeat first | refine And.intro rfl ?_ | refine Or.inl (And.intro rfl ?_) | refine Or.inr (And.intro rfl ?_) | refine And.intro (fun (_ : true = true) => ?_) (fun (h : true = false) => Bool.noConfusion h) | refine And.intro (fun (h : false = true) => Bool.noConfusion h) (fun (_ : false = false) => ?_)
    refine And.intro (show 0 ≤ (l.length : Int) ∧ (l.length : Int) ≤ l.length ∧ (l.length : Int) ≤ 1000000 by omega) ?_
    repeat first | refine And.intro rfl ?_ | refine Or.inl (And.intro rfl ?_) | refine Or.inr (And.intro rfl ?_) | refine And.intro (fun (_ : true = true) => ?_) (fun (h : true = false) => Bool.noConfusion h) | refine And.intro (fun (h : false = true) => Bool.noConfusion h) (fun (_ : false = false) => ?_)
    refine Exists.intro {t : Nat // t ≤ l.length} (Exists.intro (fun t => ⟨[(0, .one (.nat l)), (1, .val (.int .i64 (s : Nat))), (5, .own 0), (12, .one (.nat l)), (13, .val (.int .i64 (l.length : Nat))), (14, .val (.int .i64 (t.1 : Nat)))], ⟨[], [.n 128 (lk t.1 (nv l / 2 ^ s) ++ List.replicate (l.length - t.1) 0)]⟩⟩) (Exists.intro (fun t => l.length - t.1) (Exists.intro ⟨0, Nat.zero_le _⟩ (And.intro ?_ ?_))))
    · repeat first | exact trivial | refine And.intro rfl ?_ | refine And.intro trivial ?_ | refine And.intro (And.intro rfl trivial) ?_ | refine And.intro (And.intro rfl (And.intro rfl trivial)) ?_
    · rintro ⟨i, hi⟩
      have hrow : (lk i (nv l / 2 ^ s) ++ List.replicate (l.length - i) 0).length = l.length := by simp [lk_len]; omega
      repeat first | refine And.intro rfl ?_ | refine Or.inl (And.intro rfl ?_) | refine Or.inr (And.intro rfl ?_) | refine And.intro (fun (_ : true = true) => ?_) (fun (h : true = false) => Bool.noConfusion h) | refine And.intro (fun (h : false = true) => Bool.noConfusion h) (fun (_ : false = false) => ?_)
      refine And.intro (fun hc => ?_) (fun hc => ?_)
      · have hi' : (i : Int) < l.length := of_decide_eq_true hc
        have hx : l.getD i 0 < 4294967296 := hl.getD i
        have hx1 : l.getD (i + 1) 0 < 4294967296 := hl.getD (i + 1)
        obtain ⟨Y, hY⟩ : ∃ Y, Y = l.getD i 0 + 4294967296 * l.getD (i + 1) 0 := ⟨_, rfl⟩
        have hi1 : IntKind.i64.wrap ((i : Int) + 1) = ((i + 1 : Nat) : Int) := by rw [wI (by omega) (by omega)]; omega
        obtain ⟨m, hm⟩ : ∃ m, l.length - i = m + 1 := ⟨l.length - i - 1, by omega⟩
        have ew : IntKind.u32.wrap (Int.fdiv ((Y : Nat) : Int) (2 ^ min (s : Int).toNat IntKind.u64.bits)) = ((Y / 2 ^ s % 4294967296 : Nat) : Int) := by
          have e1 : min (s : Int).toNat IntKind.u64.bits = s := by rw [Int.toNat_natCast]; exact Nat.min_eq_left (by show s ≤ 64; omega)
          rw [e1, Int.fdiv_eq_ediv_of_nonneg _ (Int.le_of_lt (Int.pow_pos (by decide))), wU32]
          rfl
        repeat first | refine And.intro rfl ?_ | refine Or.inl (And.intro rfl ?_) | refine Or.inr (And.intro rfl ?_) | refine And.intro (fun (_ : true = true) => ?_) (fun (h : true = false) => Bool.noConfusion h) | refine And.intro (fun (h : false = true) => Bool.noConfusion h) (fun (_ : false = false) => ?_)
        refine And.intro (show 0 ≤ (i : Int) ∧ (i : Int) < l.length by omega) ?_
        repeat first | refine And.intro rfl ?_ | refine Or.inl (And.intro rfl ?_) | refine Or.inr (And.intro rfl ?_) | refine And.intro (fun (_ : true = true) => ?_) (fun (h : true = false) => Bool.noConfusion h) | refine And.intro (fun (h : false = true) => Bool.noConfusion h) (fun (_ : false = false) => ?_)
        refine And.intro (fun hc => ?_) (fun hc => ?_)
        · have hi2 : IntKind.i64.wrap ((i : Int) + 1) < l.length := of_decide_eq_true hc
          repeat first | refine And.intro rfl ?_ | refine Or.inl (And.intro rfl ?_) | refine Or.inr (And.intro rfl ?_) | refine And.intro (fun (_ : true = true) => ?_) (fun (h : true = false) => Bool.noConfusion h) | refine And.intro (fun (h : false = true) => Bool.noConfusion h) (fun (_ : false = false) => ?_)
          refine And.intro (show 0 ≤ IntKind.i64.wrap ((i : Int) + 1) ∧ IntKind.i64.wrap ((i : Int) + 1) < l.length by rw [hi1] at hi2 ⊢; omega) ?_
          repeat first | refine And.intro rfl ?_ | refine Or.inl (And.intro rfl ?_) | refine Or.inr (And.intro rfl ?_) | refine And.intro (fun (_ : true = true) => ?_) (fun (h : true = false) => Bool.noConfusion h) | refine And.intro (fun (h : false = true) => Bool.noConfusion h) (fun (_ : false = false) => ?_)
          refine And.intro (show 0 ≤ (32 : Int) by decide) ?_
          repeat first | refine And.intro rfl ?_ | refine Or.inl (And.intro rfl ?_) | refine Or.inr (And.intro rfl ?_) | refine And.intro (fun (_ : true = true) => ?_) (fun (h : true = false) => Bool.noConfusion h) | refine And.intro (fun (h : false = true) => Bool.noConfusion h) (fun (_ : false = false) => ?_)
          have ey : bits .or .u64 (IntKind.u64.wrap ((l.getD (i : Int).toNat 0 : Nat) : Int)) (IntKind.u64.wrap (IntKind.u64.wrap ((l.getD (IntKind.i64.wrap ((i : Int) + 1)).toNat 0 : Nat) : Int) * 2 ^ min (32 : Int).toNat IntKind.u64.bits)) = ((Y : Nat) : Int) := by
            rw [hi1, Int.toNat_natCast, Int.toNat_natCast, wU (x := ((l.getD (i + 1) 0 : Nat) : Int)) (by omega) (by omega), bits_or_comm, or_limb _ _ hx1 hx, hY]
            congr 1
            omega
          refine And.intro (show 0 ≤ (s : Int) by omega) ?_
          repeat first | refine And.intro rfl ?_ | refine Or.inl (And.intro rfl ?_) | refine Or.inr (And.intro rfl ?_) | refine And.intro (fun (_ : true = true) => ?_) (fun (h : true = false) => Bool.noConfusion h) | refine And.intro (fun (h : false = true) => Bool.noConfusion h) (fun (_ : false = false) => ?_)
          refine And.intro (show 0 ≤ (i : Int) ∧ (i : Int) < (lk i (nv l / 2 ^ s) ++ List.replicate (l.length - i) 0).length by rw [hrow]; omega) ?_
          repeat first | refine And.intro rfl ?_ | refine Or.inl (And.intro rfl ?_) | refine Or.inr (And.intro rfl ?_) | refine And.intro (fun (_ : true = true) => ?_) (fun (h : true = false) => Bool.noConfusion h) | refine And.intro (fun (h : false = true) => Bool.noConfusion h) (fun (_ : false = false) => ?_)
          refine And.intro (show (i : Int).toNat < (lk i (nv l / 2 ^ s) ++ List.replicate (l.length - i) 0).length ∧ 0 ≤ IntKind.u32.wrap (Int.fdiv (bits .or .u64 _ _) _) ∧ IntKind.u32.wrap (Int.fdiv (bits .or .u64 _ _) _) < 4294967296 by rw [ey, ew, hrow]; omega) ?_
          repeat first | refine And.intro rfl ?_ | refine Or.inl (And.intro rfl ?_) | refine Or.inr (And.intro rfl ?_) | refine And.intro (fun (_ : true = true) => ?_) (fun (h : true = false) => Bool.noConfusion h) | refine And.intro (fun (h : false = true) => Bool.noConfusion h) (fun (_ : false = false) => ?_)
          refine Exists.intro ⟨i + 1, (show i + 1 ≤ _ by omega)⟩ (And.intro (show l.length - (i + 1) < l.length - i by omega) ?_)
          repeat first | exact trivial | refine And.intro rfl ?_ | refine And.intro trivial ?_ | refine And.intro (And.intro rfl trivial) ?_ | refine And.intro (And.intro rfl (And.intro rfl trivial)) ?_
          refine And.intro (And.intro (rwN ?_) trivial) ?_
          · show (lk i (nv l / 2 ^ s) ++ List.replicate (l.length - i) 0).set (i : Int).toNat (IntKind.u32.wrap (Int.fdiv (bits .or .u64 _ _) _)).toNat = lk (i + 1) (nv l / 2 ^ s) ++ List.replicate (l.length - (i + 1)) 0
            rw [ey, ew, Int.toNat_natCast, Int.toNat_natCast, hm, List.replicate_succ, set_at _ _ _ _ (lk_len i _), show l.length - (i + 1) = m by omega, lk_snoc, right_step l i s (by omega) hl (by omega) hY]
            simp
          · repeat first | exact trivial | refine And.intro rfl ?_ | refine And.intro trivial ?_ | refine And.intro (And.intro rfl trivial) ?_ | refine And.intro (And.intro rfl (And.intro rfl trivial)) ?_
            exact And.intro (avI hi1) trivial
        · have hi2 : ¬ IntKind.i64.wrap ((i : Int) + 1) < l.length := of_decide_eq_false hc
          rw [hi1] at hi2
          have e2 : l.getD (i + 1) 0 = 0 := by simp [List.getD_eq_getElem?_getD, List.getElem?_eq_none (show l.length ≤ i + 1 by omega)]
          repeat first | refine And.intro rfl ?_ | refine Or.inl (And.intro rfl ?_) | refine Or.inr (And.intro rfl ?_) | refine And.intro (fun (_ : true = true) => ?_) (fun (h : true = false) => Bool.noConfusion h) | refine And.intro (fun (h : false = true) => Bool.noConfusion h) (fun (_ : false = false) => ?_)
          have ey : IntKind.u64.wrap ((l.getD (i : Int).toNat 0 : Nat) : Int) = ((Y : Nat) : Int) := by
            rw [Int.toNat_natCast, wU (by omega) (by omega), hY, e2, Nat.mul_zero, Nat.add_zero]
          refine And.intro (show 0 ≤ (s : Int) by omega) ?_
          repeat first | refine And.intro rfl ?_ | refine Or.inl (And.intro rfl ?_) | refine Or.inr (And.intro rfl ?_) | refine And.intro (fun (_ : true = true) => ?_) (fun (h : true = false) => Bool.noConfusion h) | refine And.intro (fun (h : false = true) => Bool.noConfusion h) (fun (_ : false = false) => ?_)
          refine And.intro (show 0 ≤ (i : Int) ∧ (i : Int) < (lk i (nv l / 2 ^ s) ++ List.replicate (l.length - i) 0).length by rw [hrow]; omega) ?_
          repeat first | refine And.intro rfl ?_ | refine Or.inl (And.intro rfl ?_) | refine Or.inr (And.intro rfl ?_) | refine And.intro (fun (_ : true = true) => ?_) (fun (h : true = false) => Bool.noConfusion h) | refine And.intro (fun (h : false = true) => Bool.noConfusion h) (fun (_ : false = false) => ?_)
          refine And.intro (show (i : Int).toNat < (lk i (nv l / 2 ^ s) ++ List.replicate (l.length - i) 0).length ∧ 0 ≤ IntKind.u32.wrap (Int.fdiv (IntKind.u64.wrap ((l.getD (i : Int).toNat 0 : Nat) : Int)) _) ∧ IntKind.u32.wrap (Int.fdiv (IntKind.u64.wrap ((l.getD (i : Int).toNat 0 : Nat) : Int)) _) < 4294967296 by rw [ey, ew, hrow]; omega) ?_
          repeat first | refine And.intro rfl ?_ | refine Or.inl (And.intro rfl ?_) | refine Or.inr (And.intro rfl ?_) | refine And.intro (fun (_ : true = true) => ?_) (fun (h : true = false) => Bool.noConfusion h) | refine And.intro (fun (h : false = true) => Bool.noConfusion h) (fun (_ : false = false) => ?_)
          refine Exists.intro ⟨i + 1, (show i + 1 ≤ _ by omega)⟩ (And.intro (show l.length - (i + 1) < l.length - i by omega) ?_)
          repeat first | exact trivial | refine And.intro rfl ?_ | refine And.intro trivial ?_ | refine And.intro (And.intro rfl trivial) ?_ | refine And.intro (And.intro rfl (And.intro rfl trivial)) ?_
          refine And.intro (And.intro (rwN ?_) trivial) ?_
          · show (lk i (nv l / 2 ^ s) ++ List.replicate (l.length - i) 0).set (i : Int).toNat (IntKind.u32.wrap (Int.fdiv (IntKind.u64.wrap ((l.getD (i : Int).toNat 0 : Nat) : Int)) _)).toNat = lk (i + 1) (nv l / 2 ^ s) ++ List.replicate (l.length - (i + 1)) 0
            rw [ey, ew, Int.toNat_natCast, Int.toNat_natCast, hm, List.replicate_succ, set_at _ _ _ _ (lk_len i _), show l.length - (i + 1) = m by omega, lk_snoc, right_step l i s (by omega) hl (by omega) hY]
            simp
          · repeat first | exact trivial | refine And.intro rfl ?_ | refine And.intro trivial ?_ | refine And.intro (And.intro rfl trivial) ?_ | refine And.intro (And.intro rfl (And.intro rfl trivial)) ?_
            exact And.intro (avI hi1) trivial
      · have hi' : ¬ (i : Int) < l.length := of_decide_eq_false hc
        have hil : i = l.length := by omega
        subst hil
        repeat first | refine And.intro rfl ?_ | refine Or.inl (And.intro rfl ?_) | refine Or.inr (And.intro rfl ?_) | refine And.intro (fun (_ : true = true) => ?_) (fun (h : true = false) => Bool.noConfusion h) | refine And.intro (fun (h : false = true) => Bool.noConfusion h) (fun (_ : false = false) => ?_)
        refine And.intro (show (lk l.length (nv l / 2 ^ s) ++ List.replicate (l.length - l.length) 0).length ≤ 1000000 by rw [hrow]; omega) ?_
        refine congrArg (fun x => Res.r (.one (.nat (dg x)))) ?_
        show nv (lk l.length (nv l / 2 ^ s) ++ List.replicate (l.length - l.length) 0) = _
        rw [Nat.sub_self, List.replicate_zero, List.append_nil, nv_lk]
        exact Nat.lt_of_le_of_lt (Nat.div_le_self _ _) (nv_lt hl)
  · cases h

end Go.Gm
