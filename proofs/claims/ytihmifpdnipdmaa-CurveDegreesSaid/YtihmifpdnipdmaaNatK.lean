/-
  The natural numbers of the program, part K: the bits of a limb. Plain theorems; no condition.
-/
import Derived.Test.YtihmifpdnipdmaaNatL
set_option linter.all false
namespace Go.Gm
open Go.Proofs

/-- How many bits a number has. -/
def blen : Nat → Nat
  | 0 => 0
  | n + 1 => Nat.log2 (n + 1) + 1

theorem blen_of {x m : Nat} (h1 : 2 ^ m ≤ x) (h2 : x < 2 ^ (m + 1)) : blen x = m + 1 := by
  have hp : 0 < 2 ^ m := Nat.pos_of_ne_zero (by simp)
  match x, h1, h2 with
  | 0, h1, _ => omega
  | n + 1, h1, h2 =>
    show Nat.log2 (n + 1) + 1 = m + 1
    rw [(Nat.log2_eq_iff (by omega)).2 ⟨h1, h2⟩]
theorem blen_pos {x : Nat} (h : 0 < x) : ∃ m, blen x = m + 1 ∧ 2 ^ m ≤ x ∧ x < 2 ^ (m + 1) := by
  match x, h with
  | n + 1, _ => exact ⟨Nat.log2 (n + 1), rfl, Nat.log2_self_le (by omega), Nat.lt_log2_self⟩
theorem blen_shift {x k : Nat} (h : 2 ^ k ≤ x) : blen x = k + blen (x / 2 ^ k) := by
  have hp : 0 < 2 ^ k := Nat.pos_of_ne_zero (by simp)
  have h1 : 0 < x / 2 ^ k := Nat.div_pos h hp
  obtain ⟨m, e, h2, h3⟩ := blen_pos h1
  rw [e]
  have h4 : 2 ^ (k + m) ≤ x := by
    rw [Nat.le_div_iff_mul_le hp] at h2
    rw [Nat.pow_add, Nat.mul_comm]
    exact h2
  have h5 : x < 2 ^ (k + m + 1) := by
    rw [Nat.div_lt_iff_lt_mul hp] at h3
    rw [Nat.add_assoc, Nat.pow_add, Nat.mul_comm]
    exact h3
  rw [blen_of h4 h5]
  omega

theorem wU8 (n : Int) : IntKind.u8.wrap n = n % 256 := by simp [IntKind.wrap, IntKind.bits, IntKind.signed]
theorem blen_le {x : Nat} (h : x < 4294967296) : blen x ≤ 32 := by
  rcases Nat.eq_zero_or_pos x with e | e
  · subst e; decide
  · obtain ⟨m, e, h2, h3⟩ := blen_pos e
    have : 2 ^ m < 2 ^ 32 := by omega
    have := (Nat.pow_lt_pow_iff_right (by decide)).1 this
    omega

theorem tabPre {T : ByteArray} {j : Int} {n : Nat} (hT : T.size = 256) (hj : j = ((n : Nat) : Int)) (hn : n < 256) : 0 ≤ j ∧ j.toNat < T.size := by
  rw [hT]
  omega
theorem resTab {T : ByteArray} {j c : Int} {n k x : Nat} (hT : (List.range 256).all (fun n => (T[n]?.getD 0).toNat == blen n) = true) (hj : j = ((n : Nat) : Int)) (hn : n < 256) (h : blen x = k + blen n) (hc : c = (k : Int)) (hx : x < 4294967296) :
    Res.r (.one (.val (.int .i64 (IntKind.i64.wrap (c + IntKind.i64.wrap (((T[j.toNat]?.getD 0).toNat : Nat) : Int)))))) = Res.r (.one (.val (.int .i64 ((blen x : Nat) : Int)))) := by
  have h1 := (List.all_eq_true.1 hT) n (List.mem_range.2 hn)
  have h2 := eq_of_beq h1
  have h3 := blen_le hx
  rw [hj, Int.toNat_natCast, h2, hc, wI (x := ((blen n : Nat) : Int)) (by omega) (by omega), wI (by omega) (by omega), h]
  congr 3

theorem fd16 (n : Int) : n.fdiv (2 ^ min (16 : Int).toNat IntKind.u32.bits) = n / 65536 := by
  rw [show (2 : Int) ^ min (16 : Int).toNat IntKind.u32.bits = 65536 by decide, Int.fdiv_eq_ediv_of_nonneg _ (by decide)]
theorem fd8 (n : Int) : n.fdiv (2 ^ min (8 : Int).toNat IntKind.u32.bits) = n / 256 := by
  rw [show (2 : Int) ^ min (8 : Int).toNat IntKind.u32.bits = 256 by decide, Int.fdiv_eq_ediv_of_nonneg _ (by decide)]

def sLen : List RV → Option (Prop × Res)
  | [.one (.b (.val (.int .u32 x)))] => some (0 ≤ x ∧ x < 4294967296, .r (.one (.val (.int .i64 (blen x.toNat : Nat)))))
  | _ => none

set_option maxHeartbeats 1000000 in
theorem ok_len32 : Ok1 190 sLen := by
  refine ok_of TabOk.nil Try.func190 rfl (by kernel_rfl) ?_
  intro xs pre res h hp hlim
  unfold sLen at h
  split at h
  · rename_i xx
    cases h
    obtain ⟨hp1, hp2⟩ := hp
    obtain ⟨x, rfl⟩ : ∃ x : Nat, xx = (x : Int) := ⟨xx.toNat, by omega⟩
    rw [Int.toNat_natCast]
    have hx : x < 4294967296 := by omega
    refine And.intro (Nat.le_of_ble_eq_true rfl) ?_
    repeat first | refine And.intro rfl ?_ | refine Or.inl (And.intro rfl ?_) | refine Or.inr (And.intro rfl ?_) | refine And.intro (fun (_ : true = true) => ?_) (fun (h : true = false) => Bool.noConfusion h) | refine And.intro (fun (h : false = true) => Bool.noConfusion h) (fun (_ : false = false) => ?_)
    refine And.intro (fun hc => ?_) (fun hc => ?_)
    · have h1 : (x : Int) ≥ 65536 := of_decide_eq_true hc
      repeat first | refine And.intro rfl ?_ | refine Or.inl (And.intro rfl ?_) | refine Or.inr (And.intro rfl ?_) | refine And.intro (fun (_ : true = true) => ?_) (fun (h : true = false) => Bool.noConfusion h) | refine And.intro (fun (h : false = true) => Bool.noConfusion h) (fun (_ : false = false) => ?_)
      refine And.intro (show 0 ≤ (16 : Int) by decide) ?_
      repeat first | refine And.intro rfl ?_ | refine Or.inl (And.intro rfl ?_) | refine Or.inr (And.intro rfl ?_) | refine And.intro (fun (_ : true = true) => ?_) (fun (h : true = false) => Bool.noConfusion h) | refine And.intro (fun (h : false = true) => Bool.noConfusion h) (fun (_ : false = false) => ?_)
      refine And.intro (fun hc => ?_) (fun hc => ?_)
      · have h2 : Int.fdiv (x : Int) (2 ^ min (16 : Int).toNat IntKind.u32.bits) ≥ 256 := of_decide_eq_true hc
        rw [fd16] at h2
        repeat first | refine And.intro rfl ?_ | refine Or.inl (And.intro rfl ?_) | refine Or.inr (And.intro rfl ?_) | refine And.intro (fun (_ : true = true) => ?_) (fun (h : true = false) => Bool.noConfusion h) | refine And.intro (fun (h : false = true) => Bool.noConfusion h) (fun (_ : false = false) => ?_)
        refine And.intro (show 0 ≤ (8 : Int) by decide) ?_
        repeat first | refine And.intro rfl ?_ | refine Or.inl (And.intro rfl ?_) | refine Or.inr (And.intro rfl ?_) | refine And.intro (fun (_ : true = true) => ?_) (fun (h : true = false) => Bool.noConfusion h) | refine And.intro (fun (h : false = true) => Bool.noConfusion h) (fun (_ : false = false) => ?_)
        have hu : IntKind.u8.wrap (Int.fdiv (Int.fdiv (x : Int) (2 ^ min (16 : Int).toNat IntKind.u32.bits)) (2 ^ min (8 : Int).toNat IntKind.u32.bits)) = ((x / 16777216 : Nat) : Int) := by
          rw [wU8]
          rw [fd16, fd8]; omega
        refine And.intro (tabPre (by kernel_rfl) hu (by omega)) ?_
        repeat first | refine And.intro rfl ?_ | refine Or.inl (And.intro rfl ?_) | refine Or.inr (And.intro rfl ?_) | refine And.intro (fun (_ : true = true) => ?_) (fun (h : true = false) => Bool.noConfusion h) | refine And.intro (fun (h : false = true) => Bool.noConfusion h) (fun (_ : false = false) => ?_)
        exact resTab (by kernel_rfl) hu (by omega) (blen_shift (k := 24) (by omega)) (show IntKind.i64.wrap (16 + 8) = ((24 : Nat) : Int) by decide) hx
      · have h2 : ¬ Int.fdiv (x : Int) (2 ^ min (16 : Int).toNat IntKind.u32.bits) ≥ 256 := of_decide_eq_false hc
        rw [fd16] at h2
        repeat first | refine And.intro rfl ?_ | refine Or.inl (And.intro rfl ?_) | refine Or.inr (And.intro rfl ?_) | refine And.intro (fun (_ : true = true) => ?_) (fun (h : true = false) => Bool.noConfusion h) | refine And.intro (fun (h : false = true) => Bool.noConfusion h) (fun (_ : false = false) => ?_)
        have hu : IntKind.u8.wrap (Int.fdiv (x : Int) (2 ^ min (16 : Int).toNat IntKind.u32.bits)) = ((x / 65536 : Nat) : Int) := by
          rw [wU8]
          rw [fd16]; omega
        refine And.intro (tabPre (by kernel_rfl) hu (by omega)) ?_
        repeat first | refine And.intro rfl ?_ | refine Or.inl (And.intro rfl ?_) | refine Or.inr (And.intro rfl ?_) | refine And.intro (fun (_ : true = true) => ?_) (fun (h : true = false) => Bool.noConfusion h) | refine And.intro (fun (h : false = true) => Bool.noConfusion h) (fun (_ : false = false) => ?_)
        exact resTab (by kernel_rfl) hu (by omega) (blen_shift (k := 16) (by omega)) rfl hx
    · have h1 : ¬ (x : Int) ≥ 65536 := of_decide_eq_false hc
      repeat first | refine And.intro rfl ?_ | refine Or.inl (And.intro rfl ?_) | refine Or.inr (And.intro rfl ?_) | refine And.intro (fun (_ : true = true) => ?_) (fun (h : true = false) => Bool.noConfusion h) | refine And.intro (fun (h : false = true) => Bool.noConfusion h) (fun (_ : false = false) => ?_)
      refine And.intro (fun hc => ?_) (fun hc => ?_)
      · have h2 : (x : Int) ≥ 256 := of_decide_eq_true hc
        repeat first | refine And.intro rfl ?_ | refine Or.inl (And.intro rfl ?_) | refine Or.inr (And.intro rfl ?_) | refine And.intro (fun (_ : true = true) => ?_) (fun (h : true = false) => Bool.noConfusion h) | refine And.intro (fun (h : false = true) => Bool.noConfusion h) (fun (_ : false = false) => ?_)
        refine And.intro (show 0 ≤ (8 : Int) by decide) ?_
        repeat first | refine And.intro rfl ?_ | refine Or.inl (And.intro rfl ?_) | refine Or.inr (And.intro rfl ?_) | refine And.intro (fun (_ : true = true) => ?_) (fun (h : true = false) => Bool.noConfusion h) | refine And.intro (fun (h : false = true) => Bool.noConfusion h) (fun (_ : false = false) => ?_)
        have hu : IntKind.u8.wrap (Int.fdiv (x : Int) (2 ^ min (8 : Int).toNat IntKind.u32.bits)) = ((x / 256 : Nat) : Int) := by
          rw [wU8]
          rw [fd8]; omega
        refine And.intro (tabPre (by kernel_rfl) hu (by omega)) ?_
        repeat first | refine And.intro rfl ?_ | refine Or.inl (And.intro rfl ?_) | refine Or.inr (And.intro rfl ?_) | refine And.intro (fun (_ : true = true) => ?_) (fun (h : true = false) => Bool.noConfusion h) | refine And.intro (fun (h : false = true) => Bool.noConfusion h) (fun (_ : false = false) => ?_)
        exact resTab (by kernel_rfl) hu (by omega) (blen_shift (k := 8) (by omega)) (show IntKind.i64.wrap (0 + 8) = ((8 : Nat) : Int) by decide) hx
      · have h2 : ¬ (x : Int) ≥ 256 := of_decide_eq_false hc
        repeat first | refine And.intro rfl ?_ | refine Or.inl (And.intro rfl ?_) | refine Or.inr (And.intro rfl ?_) | refine And.intro (fun (_ : true = true) => ?_) (fun (h : true = false) => Bool.noConfusion h) | refine And.intro (fun (h : false = true) => Bool.noConfusion h) (fun (_ : false = false) => ?_)
        have hu : IntKind.u8.wrap (x : Int) = ((x : Nat) : Int) := by
          rw [wU8]
          omega
        refine And.intro (tabPre (by kernel_rfl) hu (by omega)) ?_
        repeat first | refine And.intro rfl ?_ | refine Or.inl (And.intro rfl ?_) | refine Or.inr (And.intro rfl ?_) | refine And.intro (fun (_ : true = true) => ?_) (fun (h : true = false) => Bool.noConfusion h) | refine And.intro (fun (h : false = true) => Bool.noConfusion h) (fun (_ : false = false) => ?_)
        exact resTab (by kernel_rfl) hu (by omega) (show blen x = 0 + blen x by omega) rfl hx
  · cases h

def TK0 : Table := [(190, sLen)]
theorem TK0_ok : TabOk TK0 := TabOk.cons ok_len32 TabOk.nil

def sLz : List RV → Option (Prop × Res)
  | [.one (.b (.val (.int .u32 x)))] => some (0 ≤ x ∧ x < 4294967296, .r (.one (.val (.int .i64 ((32 - blen x.toNat : Nat) : Int)))))
  | _ => none

theorem ok_lz32 : Ok1 175 sLz := by
  refine ok_of TK0_ok Try.func175 rfl (by kernel_rfl) ?_
  intro xs pre res h hp hlim
  unfold sLz at h
  split at h
  · rename_i xx
    cases h
    have hb := blen_le (x := xx.toNat) (by omega)
    refine And.intro (Nat.le_of_ble_eq_true rfl) ?_
    repeat first | refine And.intro rfl ?_ | refine Or.inl (And.intro rfl ?_) | refine Or.inr (And.intro rfl ?_) | refine And.intro (fun (_ : true = true) => ?_) (fun (h : true = false) => Bool.noConfusion h) | refine And.intro (fun (h : false = true) => Bool.noConfusion h) (fun (_ : false = false) => ?_)
    refine And.intro hp ?_
    repeat first | refine And.intro rfl ?_ | refine Or.inl (And.intro rfl ?_) | refine Or.inr (And.intro rfl ?_) | refine And.intro (fun (_ : true = true) => ?_) (fun (h : true = false) => Bool.noConfusion h) | refine And.intro (fun (h : false = true) => Bool.noConfusion h) (fun (_ : false = false) => ?_)
    show Res.r (.one (.val (.int .i64 (IntKind.i64.wrap (32 - ((blen xx.toNat : Nat) : Int)))))) = _
    rw [wI (by omega) (by omega), Int.ofNat_sub hb]
    rfl
  · cases h

end Go.Gm
