/-
  The natural numbers of the program, part L: shifts. Plain theorems; no condition.
-/
import Derived.Test.YtihmifpdnipdmaaDig
set_option linter.all false
namespace Go.Gm
open Go.Proofs

/-- Two numbers that share no bit. -/
theorem or_sum (h lo s : Nat) (hs : s < 32) (hh : h < 2 ^ s) (hd : lo % 2 ^ s = 0) (hl : lo < 4294967296) : bits .or .u32 ((h : Nat) : Int) ((lo : Nat) : Int) = ((h + lo : Nat) : Int) ∧ h + lo < 4294967296 := by
  obtain ⟨m, rfl⟩ : ∃ m, lo = m * 2 ^ s := ⟨lo / 2 ^ s, by have := Nat.div_add_mod lo (2 ^ s); rw [hd, Nat.mul_comm] at this; omega⟩
  have e : m * 2 ^ s + h = m * 2 ^ s ||| h := by
    have := Nat.shiftLeft_add_eq_or_of_lt (b := h) (i := s) hh m
    rwa [Nat.shiftLeft_eq] at this
  have hlt : m * 2 ^ s + h < 4294967296 := by
    have e32 : (4294967296 : Nat) = 2 ^ (32 - s) * 2 ^ s := by rw [← Nat.pow_add, show 32 - s + s = 32 by omega]
    have hp : 0 < 2 ^ s := Nat.pos_of_ne_zero (by simp)
    have hm : m < 2 ^ (32 - s) := by
      rw [e32] at hl
      exact Nat.lt_of_mul_lt_mul_right hl
    have : (m + 1) * 2 ^ s ≤ 2 ^ (32 - s) * 2 ^ s := Nat.mul_le_mul_right _ hm
    rw [Nat.add_mul, Nat.one_mul, ← e32] at this
    omega
  refine ⟨?_, by omega⟩
  have hb : bits .or .u32 ((h : Nat) : Int) ((m * 2 ^ s : Nat) : Int) = IntKind.u32.wrap ((BitVec.ofInt 32 (h : Int) ||| BitVec.ofInt 32 ((m * 2 ^ s : Nat) : Int)).toNat : Int) := rfl
  rw [hb, BitVec.toNat_or, BitVec.ofInt_natCast, BitVec.ofInt_natCast, BitVec.toNat_ofNat, BitVec.toNat_ofNat, Nat.mod_eq_of_lt (by omega), Nat.mod_eq_of_lt (by omega), Nat.or_comm, ← e, wU32]
  omega

theorem set_at (a : List Nat) (x y : Nat) (b : List Nat) {i : Nat} (h : a.length = i) : (a ++ x :: b).set i y = a ++ y :: b := by
  subst h
  rw [List.set_append_right _ _ (Nat.le_refl _)]
  simp
theorem set_at1 (a : List Nat) (x y z : Nat) (b : List Nat) {i : Nat} (h : a.length = i) : (a ++ x :: y :: b).set (i + 1) z = a ++ x :: z :: b := by
  subst h
  rw [List.set_append_right _ _ (by omega)]
  simp
theorem getD_mid (a : List Nat) (x : Nat) (b : List Nat) {i : Nat} (h : a.length = i) : (a ++ x :: b).getD i 0 = x := by
  subst h
  simp [List.getD_eq_getElem?_getD]

theorem shl_limb (x s : Nat) (hs : s < 32) (hx : x < 4294967296) : IntKind.u64.wrap (IntKind.u64.wrap ((x : Nat) : Int) * 2 ^ min (s : Int).toNat IntKind.u64.bits) = ((x * 2 ^ s : Nat) : Int) ∧ x * 2 ^ s < 9223372036854775808 := by
  have h1 : (2 : Nat) ^ s ≤ 2 ^ 31 := Nat.pow_le_pow_right (by decide) (by omega)
  have h2 : x * 2 ^ s ≤ 4294967295 * 2 ^ 31 := Nat.mul_le_mul (by omega) h1
  have e1 : min (s : Int).toNat IntKind.u64.bits = s := by rw [Int.toNat_natCast]; exact Nat.min_eq_left (by show s ≤ 64; omega)
  refine ⟨?_, by omega⟩
  rw [wU (x := ((x : Nat) : Int)) (by omega) (by omega), e1, wU64]
  have e2 : ((x : Nat) : Int) * 2 ^ s = ((x * 2 ^ s : Nat) : Int) := by push_cast; rfl
  rw [e2]
  omega

/-- One step of the shift. -/
theorem left_step {out l : List Nat} {i h s T : Nat} (hs : s < 32) (hh : h < 2 ^ s) (hx : l.getD i 0 < 4294967296) (ho : out.length = i) (hT : T = l.getD i 0 * 2 ^ s) (hinv : nv out + B ^ i * h = nv (l.take i) * 2 ^ s) :
    T % 4294967296 % 2 ^ s = 0 ∧ T / 4294967296 < 2 ^ s ∧ nv (out ++ [h + T % 4294967296]) + B ^ (i + 1) * (T / 4294967296) = nv (l.take (i + 1)) * 2 ^ s := by
  have e32 : (4294967296 : Nat) = 2 ^ (32 - s) * 2 ^ s := by rw [← Nat.pow_add, show 32 - s + s = 32 by omega]
  have hp : 0 < 2 ^ s := Nat.pos_of_ne_zero (by simp)
  refine ⟨?_, ?_, ?_⟩
  · rw [hT]
    conv => lhs; rw [e32]
    rw [Nat.mul_mod_mul_right, Nat.mul_mod_left]
  · rw [Nat.div_lt_iff_lt_mul (by decide), hT, Nat.mul_comm]
    exact Nat.mul_lt_mul_of_pos_left hx hp
  · rw [nv_snoc, ho, nv_take_getD', Nat.add_mul, ← hinv, Nat.pow_succ]
    have e := Nat.mod_add_div T 4294967296
    generalize T % 4294967296 = a at *
    generalize T / 4294967296 = b at *
    have e1 : B ^ i * l.getD i 0 * 2 ^ s = B ^ i * T := by rw [hT, Nat.mul_assoc]
    rw [e1, ← e, ← B_eq]
    simp only [Nat.mul_add, Nat.mul_assoc]
    omega

def mLeft : List RV → Option (Prop × TypeId × List Nat)
  | [.one (.b (.nat l)), .one (.b (.val (.int .i64 s)))] => some (l.length ≤ 100000 ∧ 0 ≤ s ∧ s < 32, 128, lk (l.length + 1) (nv l * 2 ^ s.toNat))
  | _ => none

set_option maxHeartbeats 1000000 in
theorem ok_left : OkM 176 mLeft := by
  refine okM_of TD0_ok Try.func176 rfl (by kernel_rfl) rfl ?_
  intro xs pre e l h hp hlim
  unfold mLeft at h
  split at h
  · rename_i l ss
    cases h
    have hl : Lim l := hlim.1
    obtain ⟨hp1, hp2, hp3⟩ := hp
    obtain ⟨s, rfl⟩ : ∃ s : Nat, ss = (s : Int) := ⟨ss.toNat, by omega⟩
    rw [Int.toNat_natCast]
    have hw : IntKind.i64.wrap ((l.length : Int) + 1) = ((l.length + 1 : Nat) : Int) := by rw [wI (by omega) (by omega)]; omega
    refine And.intro (by rw [lk_len]; omega) ?_
    refine And.intro (Nat.le_of_ble_eq_true rfl) ?_
    repeat first | refine And.intro rfl ?_ | refine Or.inl (And.intro rfl ?_) | refine Or.inr (And.intro rfl ?_) | refine And.intro (fun (_ : true = true) => ?_) (fun (h : true = false) => Bool.noConfusion h) | refine And.intro (fun (h : false = true) => Bool.noConfusion h) (fun (_ : false = false) => ?_)
    refine And.intro (show 0 ≤ IntKind.i64.wrap ((l.length : Int) + 1) ∧ IntKind.i64.wrap ((l.length : Int) + 1) ≤ IntKind.i64.wrap ((l.length : Int) + 1) ∧ IntKind.i64.wrap ((l.length : Int) + 1) ≤ 1000000 by rw [hw]; omega) ?_
    repeat first | refine And.intro rfl ?_ | refine Or.inl (And.intro rfl ?_) | refine Or.inr (And.intro rfl ?_) | refine And.intro (fun (_ : true = true) => ?_) (fun (h : true = false) => Bool.noConfusion h) | refine And.intro (fun (h : false = true) => Bool.noConfusion h) (fun (_ : false = false) => ?_)
    refine Exists.intro {t : Nat × Nat × List Nat // t.1 ≤ l.length ∧ t.2.1 < 2 ^ s ∧ Lim t.2.2 ∧ t.2.2.length = t.1 ∧ nv t.2.2 + B ^ t.1 * t.2.1 = nv (l.take t.1) * 2 ^ s} (Exists.intro (fun t => ⟨[(0, .one (.nat l)), (1, .val (.int .i64 (s : Nat))), (5, .own 0), (13, .one (.nat l)), (14, .val (.int .i64 (l.length : Nat))), (15, .val (.int .i64 (t.1.1 : Nat)))], ⟨[], [.n 128 (t.1.2.2 ++ t.1.2.1 :: List.replicate (l.length - t.1.1) 0)]⟩⟩) (Exists.intro (fun t => l.length - t.1.1) (Exists.intro ⟨(0, 0, []), Nat.zero_le _, (show 0 < 2 ^ s from Nat.pos_of_ne_zero (by simp)), Lim.nil, rfl, (by simp [nv])⟩ (And.intro ?_ ?_))))
    · repeat first | exact trivial | refine And.intro rfl ?_ | refine And.intro trivial ?_ | refine And.intro (And.intro rfl trivial) ?_ | refine And.intro (And.intro rfl (And.intro rfl trivial)) ?_
      refine And.intro (And.intro (rwN ?_) trivial) ?_
      · show List.replicate (IntKind.i64.wrap ((l.length : Int) + 1)).toNat 0 = [] ++ 0 :: List.replicate (l.length - 0) 0
        rw [hw, Int.toNat_natCast, List.replicate_succ]
        simp
      · repeat first | exact trivial | refine And.intro rfl ?_ | refine And.intro trivial ?_ | refine And.intro (And.intro rfl trivial) ?_ | refine And.intro (And.intro rfl (And.intro rfl trivial)) ?_
    · rintro ⟨⟨i, h, out⟩, hi, hh, hlo, hol, hinv⟩
      simp only at hi hh hlo hol hinv
      have hrow : (out ++ h :: List.replicate (l.length - i) 0).length = l.length + 1 := by simp; omega
      repeat first | refine And.intro rfl ?_ | refine Or.inl (And.intro rfl ?_) | refine Or.inr (And.intro rfl ?_) | refine And.intro (fun (_ : true = true) => ?_) (fun (h : true = false) => Bool.noConfusion h) | refine And.intro (fun (h : false = true) => Bool.noConfusion h) (fun (_ : false = false) => ?_)
      refine And.intro (fun hc => ?_) (fun hc => ?_)
      · have hi' : (i : Int) < l.length := of_decide_eq_true hc
        have hx : l.getD i 0 < 4294967296 := hl.getD i
        obtain ⟨T, hT⟩ : ∃ T, T = l.getD i 0 * 2 ^ s := ⟨_, rfl⟩
        obtain ⟨es, hT1⟩ := shl_limb (l.getD i 0) s (by omega) hx
        rw [← hT] at es hT1
        obtain ⟨hd, hb, hinv2⟩ := left_step (by omega) hh hx hol hT hinv
        obtain ⟨eo, ho2⟩ := or_sum h (T % 4294967296) s (by omega) hh hd (by omega)
        have e32 : IntKind.u32.wrap ((T : Nat) : Int) = ((T % 4294967296 : Nat) : Int) := by rw [wU32]; omega
        have e33 : IntKind.u32.wrap (Int.fdiv ((T : Nat) : Int) (2 ^ min (32 : Int).toNat IntKind.u64.bits)) = ((T / 4294967296 : Nat) : Int) := by rw [fdiv32, wU32]; omega
        have hi1 : IntKind.i64.wrap ((i : Int) + 1) = ((i + 1 : Nat) : Int) := by rw [wI (by omega) (by omega)]; omega
        obtain ⟨m, hm⟩ : ∃ m, l.length - i = m + 1 := ⟨l.length - i - 1, by omega⟩
        have hh2 : h < 4294967296 := by
          have : (2 : Nat) ^ s ≤ 2 ^ 31 := Nat.pow_le_pow_right (by decide) (by omega)
          omega
        repeat first | refine And.intro rfl ?_ | refine Or.inl (And.intro rfl ?_) | refine Or.inr (And.intro rfl ?_) | refine And.intro (fun (_ : true = true) => ?_) (fun (h : true = false) => Bool.noConfusion h) | refine And.intro (fun (h : false = true) => Bool.noConfusion h) (fun (_ : false = false) => ?_)
        refine And.intro (show 0 ≤ (i : Int) ∧ (i : Int) < l.length by omega) ?_
        repeat first | refine And.intro rfl ?_ | refine Or.inl (And.intro rfl ?_) | refine Or.inr (And.intro rfl ?_) | refine And.intro (fun (_ : true = true) => ?_) (fun (h : true = false) => Bool.noConfusion h) | refine And.intro (fun (h : false = true) => Bool.noConfusion h) (fun (_ : false = false) => ?_)
        refine And.intro (show 0 ≤ (s : Int) by omega) ?_
        repeat first | refine And.intro rfl ?_ | refine Or.inl (And.intro rfl ?_) | refine Or.inr (And.intro rfl ?_) | refine And.intro (fun (_ : true = true) => ?_) (fun (h : true = false) => Bool.noConfusion h) | refine And.intro (fun (h : false = true) => Bool.noConfusion h) (fun (_ : false = false) => ?_)
        refine And.intro (show 0 ≤ (i : Int) ∧ (i : Int) < (out ++ h :: List.replicate (l.length - i) 0).length by rw [hrow]; omega) ?_
        repeat first | refine And.intro rfl ?_ | refine Or.inl (And.intro rfl ?_) | refine Or.inr (And.intro rfl ?_) | refine And.intro (fun (_ : true = true) => ?_) (fun (h : true = false) => Bool.noConfusion h) | refine And.intro (fun (h : false = true) => Bool.noConfusion h) (fun (_ : false = false) => ?_)
        refine And.intro (show (i : Int).toNat < (out ++ h :: List.replicate (l.length - i) 0).length by rw [hrow]; omega) ?_
        repeat first | refine And.intro rfl ?_ | refine Or.inl (And.intro rfl ?_) | refine Or.inr (And.intro rfl ?_) | refine And.intro (fun (_ : true = true) => ?_) (fun (h : true = false) => Bool.noConfusion h) | refine And.intro (fun (h : false = true) => Bool.noConfusion h) (fun (_ : false = false) => ?_)
        refine And.intro (show 0 ≤ (i : Int) ∧ (i : Int) < (out ++ h :: List.replicate (l.length - i) 0).length by rw [hrow]; omega) ?_
        repeat first | refine And.intro rfl ?_ | refine Or.inl (And.intro rfl ?_) | refine Or.inr (And.intro rfl ?_) | refine And.intro (fun (_ : true = true) => ?_) (fun (h : true = false) => Bool.noConfusion h) | refine And.intro (fun (h : false = true) => Bool.noConfusion h) (fun (_ : false = false) => ?_)
        have ea : bits .or .u32 (((out ++ h :: List.replicate (l.length - i) 0).getD (i : Int).toNat 0 : Nat) : Int) (IntKind.u32.wrap (IntKind.u64.wrap (IntKind.u64.wrap ((l.getD (i : Int).toNat 0 : Nat) : Int) * 2 ^ min (s : Int).toNat IntKind.u64.bits))) = ((h + T % 4294967296 : Nat) : Int) := by
          rw [Int.toNat_natCast, getD_mid _ _ _ hol, es, e32, eo]
        refine And.intro (show (i : Int).toNat < (out ++ h :: List.replicate (l.length - i) 0).length ∧ 0 ≤ bits .or .u32 _ _ ∧ bits .or .u32 _ _ < 4294967296 by rw [ea, hrow]; omega) ?_
        repeat first | refine And.intro rfl ?_ | refine Or.inl (And.intro rfl ?_) | refine Or.inr (And.intro rfl ?_) | refine And.intro (fun (_ : true = true) => ?_) (fun (h : true = false) => Bool.noConfusion h) | refine And.intro (fun (h : false = true) => Bool.noConfusion h) (fun (_ : false = false) => ?_)
        refine And.intro (show 0 ≤ (32 : Int) by decide) ?_
        repeat first | refine And.intro rfl ?_ | refine Or.inl (And.intro rfl ?_) | refine Or.inr (And.intro rfl ?_) | refine And.intro (fun (_ : true = true) => ?_) (fun (h : true = false) => Bool.noConfusion h) | refine And.intro (fun (h : false = true) => Bool.noConfusion h) (fun (_ : false = false) => ?_)
        refine And.intro (show 0 ≤ IntKind.i64.wrap ((i : Int) + 1) ∧ IntKind.i64.wrap ((i : Int) + 1) < ((out ++ h :: List.replicate (l.length - i) 0).set _ _).length by rw [hi1, List.length_set, hrow]; omega) ?_
        repeat first | refine And.intro rfl ?_ | refine Or.inl (And.intro rfl ?_) | refine Or.inr (And.intro rfl ?_) | refine And.intro (fun (_ : true = true) => ?_) (fun (h : true = false) => Bool.noConfusion h) | refine And.intro (fun (h : false = true) => Bool.noConfusion h) (fun (_ : false = false) => ?_)
        have eb : IntKind.u32.wrap (Int.fdiv (IntKind.u64.wrap (IntKind.u64.wrap ((l.getD (i : Int).toNat 0 : Nat) : Int) * 2 ^ min (s : Int).toNat IntKind.u64.bits)) (2 ^ min (32 : Int).toNat IntKind.u64.bits)) = ((T / 4294967296 : Nat) : Int) := by
          rw [Int.toNat_natCast, es, e33]
        refine And.intro (show (IntKind.i64.wrap ((i : Int) + 1)).toNat < ((out ++ h :: List.replicate (l.length - i) 0).set _ _).length ∧ 0 ≤ IntKind.u32.wrap (Int.fdiv _ _) ∧ IntKind.u32.wrap (Int.fdiv _ _) < 4294967296 by rw [eb, hi1, List.length_set, hrow]; omega) ?_
        repeat first | refine And.intro rfl ?_ | refine Or.inl (And.intro rfl ?_) | refine Or.inr (And.intro rfl ?_) | refine And.intro (fun (_ : true = true) => ?_) (fun (h : true = false) => Bool.noConfusion h) | refine And.intro (fun (h : false = true) => Bool.noConfusion h) (fun (_ : false = false) => ?_)
        refine Exists.intro ⟨(i + 1, T / 4294967296, out ++ [h + T % 4294967296]), (show i + 1 ≤ _ by omega), hb, hlo.append (Lim.cons ho2 Lim.nil), (show (out ++ [h + T % 4294967296]).length = i + 1 by simp; omega), hinv2⟩ (And.intro (show l.length - (i + 1) < l.length - i by omega) ?_)
        repeat first | exact trivial | refine And.intro rfl ?_ | refine And.intro trivial ?_ | refine And.intro (And.intro rfl trivial) ?_ | refine And.intro (And.intro rfl (And.intro rfl trivial)) ?_
        refine And.intro (And.intro (rwN ?_) trivial) ?_
        · show ((out ++ h :: List.replicate (l.length - i) 0).set (i : Int).toNat (bits .or .u32 _ _).toNat).set (IntKind.i64.wrap ((i : Int) + 1)).toNat (IntKind.u32.wrap (Int.fdiv _ _)).toNat = (out ++ [h + T % 4294967296]) ++ T / 4294967296 :: List.replicate (l.length - (i + 1)) 0
          rw [ea, eb, hi1, Int.toNat_natCast, Int.toNat_natCast, Int.toNat_natCast, Int.toNat_natCast, set_at _ _ _ _ hol, hm, List.replicate_succ, set_at1 _ _ _ _ _ hol, show l.length - (i + 1) = m by omega]
          simp
        · repeat first | exact trivial | refine And.intro rfl ?_ | refine And.intro trivial ?_ | refine And.intro (And.intro rfl trivial) ?_ | refine And.intro (And.intro rfl (And.intro rfl trivial)) ?_
          exact And.intro (avI hi1) trivial
      · have hi' : ¬ (i : Int) < l.length := of_decide_eq_false hc
        have hil : i = l.length := by omega
        subst hil
        rw [List.take_length] at hinv
        have er : out ++ h :: List.replicate (l.length - l.length) 0 = lk (l.length + 1) (nv l * 2 ^ s) := by
          refine lk_of ?_ (by simp; omega) ?_
          · have hh2 : h < 4294967296 := by
              have : (2 : Nat) ^ s ≤ 2 ^ 31 := Nat.pow_le_pow_right (by decide) (by omega)
              omega
            rw [Nat.sub_self]
            exact hlo.append (Lim.cons hh2 Lim.nil)
          · rw [Nat.sub_self, show (h :: List.replicate 0 0) = [h] from rfl, nv_snoc, hol, hinv]
        repeat first | refine And.intro rfl ?_ | refine Or.inl (And.intro rfl ?_) | refine Or.inr (And.intro rfl ?_) | refine And.intro (fun (_ : true = true) => ?_) (fun (h : true = false) => Bool.noConfusion h) | refine And.intro (fun (h : false = true) => Bool.noConfusion h) (fun (_ : false = false) => ?_)
        exact rwN er
  · cases h

/-- The same, as a number alone. -/
def sLeft : List RV → Option (Prop × Res)
  | [.one (.b (.nat l)), .one (.b (.val (.int .i64 s)))] => some (l.length ≤ 100000 ∧ 0 ≤ s ∧ s < 32, .r (.one (.nat (lk (l.length + 1) (nv l * 2 ^ s.toNat)))))
  | _ => none

set_option maxHeartbeats 1000000 in
theorem ok_leftR : Ok1 176 sLeft := by
  refine ok_of TD0_ok Try.func176 rfl (by kernel_rfl) ?_
  intro xs pre res h hp hlim
  unfold sLeft at h
  split at h
  · rename_i l ss
    cases h
    have hl : Lim l := hlim.1
    obtain ⟨hp1, hp2, hp3⟩ := hp
    obtain ⟨s, rfl⟩ : ∃ s : Nat, ss = (s : Int) := ⟨ss.toNat, by omega⟩
    rw [Int.toNat_natCast]
    have hw : IntKind.i64.wrap ((l.length : Int) + 1) = ((l.length + 1 : Nat) : Int) := by rw [wI (by omega) (by omega)]; omega
    refine And.intro (Nat.le_of_ble_eq_true rfl) ?_
    repeat first | refine And.intro rfl ?_ | refine Or.inl (And.intro rfl ?_) | refine Or.inr (And.intro rfl ?_) | refine And.intro (fun (_ : true = true) => ?_) (fun (h : true = false) => Bool.noConfusion h) | refine And.intro (fun (h : false = true) => Bool.noConfusion h) (fun (_ : false = false) => ?_)
    refine And.intro (show 0 ≤ IntKind.i64.wrap ((l.length : Int) + 1) ∧ IntKind.i64.wrap ((l.length : Int) + 1) ≤ IntKind.i64.wrap ((l.length : Int) + 1) ∧ IntKind.i64.wrap ((l.length : Int) + 1) ≤ 1000000 by rw [hw]; omega) ?_
    repeat first | refine And.intro rfl ?_ | refine Or.inl (And.intro rfl ?_) | refine Or.inr (And.intro rfl ?_) | refine And.intro (fun (_ : true = true) => ?_) (fun (h : true = false) => Bool.noConfusion h) | refine And.intro (fun (h : false = true) => Bool.noConfusion h) (fun (_ : false = false) => ?_)
    refine Exists.intro {t : Nat × Nat × List Nat // t.1 ≤ l.length ∧ t.2.1 < 2 ^ s ∧ Lim t.2.2 ∧ t.2.2.length = t.1 ∧ nv t.2.2 + B ^ t.1 * t.2.1 = nv (l.take t.1) * 2 ^ s} (Exists.intro (fun t => ⟨[(0, .one (.nat l)), (1, .val (.int .i64 (s : Nat))), (5, .own 0), (13, .one (.nat l)), (14, .val (.int .i64 (l.length : Nat))), (15, .val (.int .i64 (t.1.1 : Nat)))], ⟨[], [.n 128 (t.1.2.2 ++ t.1.2.1 :: List.replicate (l.length - t.1.1) 0)]⟩⟩) (Exists.intro (fun t => l.length - t.1.1) (Exists.intro ⟨(0, 0, []), Nat.zero_le _, (show 0 < 2 ^ s from Nat.pos_of_ne_zero (by simp)), Lim.nil, rfl, (by simp [nv])⟩ (And.intro ?_ ?_))))
    · repeat first | exact trivial | refine And.intro rfl ?_ | refine And.intro trivial ?_ | refine And.intro (And.intro rfl trivial) ?_ | refine And.intro (And.intro rfl (And.intro rfl trivial)) ?_
      refine And.intro (And.intro (rwN ?_) trivial) ?_
      · show List.replicate (IntKind.i64.wrap ((l.length : Int) + 1)).toNat 0 = [] ++ 0 :: List.replicate (l.length - 0) 0
        rw [hw, Int.toNat_natCast, List.replicate_succ]
        simp
      · repeat first | exact trivial | refine And.intro rfl ?_ | refine And.intro trivial ?_ | refine And.intro (And.intro rfl trivial) ?_ | refine And.intro (And.intro rfl (And.intro rfl trivial)) ?_
    · rintro ⟨⟨i, h, out⟩, hi, hh, hlo, hol, hinv⟩
      simp only at hi hh hlo hol hinv
      have hrow : (out ++ h :: List.replicate (l.length - i) 0).length = l.length + 1 := by simp; omega
      repeat first | refine And.intro rfl ?_ | refine Or.inl (And.intro rfl ?_) | refine Or.inr (And.intro rfl ?_) | refine And.intro (fun (_ : true = true) => ?_) (fun (h : true = false) => Bool.noConfusion h) | refine And.intro (fun (h : false = true) => Bool.noConfusion h) (fun (_ : false = false) => ?_)
      refine And.intro (fun hc => ?_) (fun hc => ?_)
      · have hi' : (i : Int) < l.length := of_decide_eq_true hc
        have hx : l.getD i 0 < 4294967296 := hl.getD i
        obtain ⟨T, hT⟩ : ∃ T, T = l.getD i 0 * 2 ^ s := ⟨_, rfl⟩
        obtain ⟨es, hT1⟩ := shl_limb (l.getD i 0) s (by omega) hx
        rw [← hT] at es hT1
        obtain ⟨hd, hb, hinv2⟩ := left_step (by omega) hh hx hol hT hinv
        obtain ⟨eo, ho2⟩ := or_sum h (T % 4294967296) s (by omega) hh hd (by omega)
        have e32 : IntKind.u32.wrap ((T : Nat) : Int) = ((T % 4294967296 : Nat) : Int) := by rw [wU32]; omega
        have e33 : IntKind.u32.wrap (Int.fdiv ((T : Nat) : Int) (2 ^ min (32 : Int).toNat IntKind.u64.bits)) = ((T / 4294967296 : Nat) : Int) := by rw [fdiv32, wU32]; omega
        have hi1 : IntKind.i64.wrap ((i : Int) + 1) = ((i + 1 : Nat) : Int) := by rw [wI (by omega) (by omega)]; omega
        obtain ⟨m, hm⟩ : ∃ m, l.length - i = m + 1 := ⟨l.length - i - 1, by omega⟩
        have hh2 : h < 4294967296 := by
          have : (2 : Nat) ^ s ≤ 2 ^ 31 := Nat.pow_le_pow_right (by decide) (by omega)
          omega
        repeat first | refine And.intro rfl ?_ | refine Or.inl (And.intro rfl ?_) | refine Or.inr (And.intro rfl ?_) | refine And.intro (fun (_ : true = true) => ?_) (fun (h : true = false) => Bool.noConfusion h) | refine And.intro (fun (h : false = true) => Bool.noConfusion h) (fun (_ : false = false) => ?_)
        refine And.intro (show 0 ≤ (i : Int) ∧ (i : Int) < l.length by omega) ?_
        repeat first | refine And.intro rfl ?_ | refine Or.inl (And.intro rfl ?_) | refine Or.inr (And.intro rfl ?_) | refine And.intro (fun (_ : true = true) => ?_) (fun (h : true = false) => Bool.noConfusion h) | refine And.intro (fun (h : false = true) => Bool.noConfusion h) (fun (_ : false = false) => ?_)
        refine And.intro (show 0 ≤ (s : Int) by omega) ?_
        repeat first | refine And.intro rfl ?_ | refine Or.inl (And.intro rfl ?_) | refine Or.inr (And.intro rfl ?_) | refine And.intro (fun (_ : true = true) => ?_) (fun (h : true = false) => Bool.noConfusion h) | refine And.intro (fun (h : false = true) => Bool.noConfusion h) (fun (_ : false = false) => ?_)
        refine And.intro (show 0 ≤ (i : Int) ∧ (i : Int) < (out ++ h :: List.replicate (l.length - i) 0).length by rw [hrow]; omega) ?_
        repeat first | refine And.intro rfl ?_ | refine Or.inl (And.intro rfl ?_) | refine Or.inr (And.intro rfl ?_) | refine And.intro (fun (_ : true = true) => ?_) (fun (h : true = false) => Bool.noConfusion h) | refine And.intro (fun (h : false = true) => Bool.noConfusion h) (fun (_ : false = false) => ?_)
        refine And.intro (show (i : Int).toNat < (out ++ h :: List.replicate (l.length - i) 0).length by rw [hrow]; omega) ?_
        repeat first | refine And.intro rfl ?_ | refine Or.inl (And.intro rfl ?_) | refine Or.inr (And.intro rfl ?_) | refine And.intro (fun (_ : true = true) => ?_) (fun (h : true = false) => Bool.noConfusion h) | refine And.intro (fun (h : false = true) => Bool.noConfusion h) (fun (_ : false = false) => ?_)
        refine And.intro (show 0 ≤ (i : Int) ∧ (i : Int) < (out ++ h :: List.replicate (l.length - i) 0).length by rw [hrow]; omega) ?_
        repeat first | refine And.intro rfl ?_ | refine Or.inl (And.intro rfl ?_) | refine Or.inr (And.intro rfl ?_) | refine And.intro (fun (_ : true = true) => ?_) (fun (h : true = false) => Bool.noConfusion h) | refine And.intro (fun (h : false = true) => Bool.noConfusion h) (fun (_ : false = false) => ?_)
        have ea : bits .or .u32 (((out ++ h :: List.replicate (l.length - i) 0).getD (i : Int).toNat 0 : Nat) : Int) (IntKind.u32.wrap (IntKind.u64.wrap (IntKind.u64.wrap ((l.getD (i : Int).toNat 0 : Nat) : Int) * 2 ^ min (s : Int).toNat IntKind.u64.bits))) = ((h + T % 4294967296 : Nat) : Int) := by
          rw [Int.toNat_natCast, getD_mid _ _ _ hol, es, e32, eo]
        refine And.intro (show (i : Int).toNat < (out ++ h :: List.replicate (l.length - i) 0).length ∧ 0 ≤ bits .or .u32 _ _ ∧ bits .or .u32 _ _ < 4294967296 by rw [ea, hrow]; omega) ?_
        repeat first | refine And.intro rfl ?_ | refine Or.inl (And.intro rfl ?_) | refine Or.inr (And.intro rfl ?_) | refine And.intro (fun (_ : true = true) => ?_) (fun (h : true = false) => Bool.noConfusion h) | refine And.intro (fun (h : false = true) => Bool.noConfusion h) (fun (_ : false = false) => ?_)
        refine And.intro (show 0 ≤ (32 : Int) by decide) ?_
        repeat first | refine And.intro rfl ?_ | refine Or.inl (And.intro rfl ?_) | refine Or.inr (And.intro rfl ?_) | refine And.intro (fun (_ : true = true) => ?_) (fun (h : true = false) => Bool.noConfusion h) | refine And.intro (fun (h : false = true) => Bool.noConfusion h) (fun (_ : false = false) => ?_)
        refine And.intro (show 0 ≤ IntKind.i64.wrap ((i : Int) + 1) ∧ IntKind.i64.wrap ((i : Int) + 1) < ((out ++ h :: List.replicate (l.length - i) 0).set _ _).length by rw [hi1, List.length_set, hrow]; omega) ?_
        repeat first | refine And.intro rfl ?_ | refine Or.inl (And.intro rfl ?_) | refine Or.inr (And.intro rfl ?_) | refine And.intro (fun (_ : true = true) => ?_) (fun (h : true = false) => Bool.noConfusion h) | refine And.intro (fun (h : false = true) => Bool.noConfusion h) (fun (_ : false = false) => ?_)
        have eb : IntKind.u32.wrap (Int.fdiv (IntKind.u64.wrap (IntKind.u64.wrap ((l.getD (i : Int).toNat 0 : Nat) : Int) * 2 ^ min (s : Int).toNat IntKind.u64.bits)) (2 ^ min (32 : Int).toNat IntKind.u64.bits)) = ((T / 4294967296 : Nat) : Int) := by
          rw [Int.toNat_natCast, es, e33]
        refine And.intro (show (IntKind.i64.wrap ((i : Int) + 1)).toNat < ((out ++ h :: List.replicate (l.length - i) 0).set _ _).length ∧ 0 ≤ IntKind.u32.wrap (Int.fdiv _ _) ∧ IntKind.u32.wrap (Int.fdiv _ _) < 4294967296 by rw [eb, hi1, List.length_set, hrow]; omega) ?_
        repeat first | refine And.intro rfl ?_ | refine Or.inl (And.intro rfl ?_) | refine Or.inr (And.intro rfl ?_) | refine And.intro (fun (_ : true = true) => ?_) (fun (h : true = false) => Bool.noConfusion h) | refine And.intro (fun (h : false = true) => Bool.noConfusion h) (fun (_ : false = false) => ?_)
        refine Exists.intro ⟨(i + 1, T / 4294967296, out ++ [h + T % 4294967296]), (show i + 1 ≤ _ by omega), hb, hlo.append (Lim.cons ho2 Lim.nil), (show (out ++ [h + T % 4294967296]).length = i + 1 by simp; omega), hinv2⟩ (And.intro (show l.length - (i + 1) < l.length - i by omega) ?_)
        repeat first | exact trivial | refine And.intro rfl ?_ | refine And.intro trivial ?_ | refine And.intro (And.intro rfl trivial) ?_ | refine And.intro (And.intro rfl (And.intro rfl trivial)) ?_
        refine And.intro (And.intro (rwN ?_) trivial) ?_
        · show ((out ++ h :: List.replicate (l.length - i) 0).set (i : Int).toNat (bits .or .u32 _ _).toNat).set (IntKind.i64.wrap ((i : Int) + 1)).toNat (IntKind.u32.wrap (Int.fdiv _ _)).toNat = (out ++ [h + T % 4294967296]) ++ T / 4294967296 :: List.replicate (l.length - (i + 1)) 0
          rw [ea, eb, hi1, Int.toNat_natCast, Int.toNat_natCast, Int.toNat_natCast, Int.toNat_natCast, set_at _ _ _ _ hol, hm, List.replicate_succ, set_at1 _ _ _ _ _ hol, show l.length - (i + 1) = m by omega]
          simp
        · repeat first | exact trivial | refine And.intro rfl ?_ | refine And.intro trivial ?_ | refine And.intro (And.intro rfl trivial) ?_ | refine And.intro (And.intro rfl (And.intro rfl trivial)) ?_
          exact And.intro (avI hi1) trivial
      · have hi' : ¬ (i : Int) < l.length := of_decide_eq_false hc
        have hil : i = l.length := by omega
        subst hil
        rw [List.take_length] at hinv
        have er : out ++ h :: List.replicate (l.length - l.length) 0 = lk (l.length + 1) (nv l * 2 ^ s) := by
          refine lk_of ?_ (by simp; omega) ?_
          · have hh2 : h < 4294967296 := by
              have : (2 : Nat) ^ s ≤ 2 ^ 31 := Nat.pow_le_pow_right (by decide) (by omega)
              omega
            rw [Nat.sub_self]
            exact hlo.append (Lim.cons hh2 Lim.nil)
          · rw [Nat.sub_self, show (h :: List.replicate 0 0) = [h] from rfl, nv_snoc, hol, hinv]
        repeat first | refine And.intro rfl ?_ | refine Or.inl (And.intro rfl ?_) | refine Or.inr (And.intro rfl ?_) | refine And.intro (fun (_ : true = true) => ?_) (fun (h : true = false) => Bool.noConfusion h) | refine And.intro (fun (h : false = true) => Bool.noConfusion h) (fun (_ : false = false) => ?_)
        show Res.r (.one (.nat (out ++ h :: List.replicate (l.length - l.length) 0))) = _; rw [er]
  · cases h

end Go.Gm
