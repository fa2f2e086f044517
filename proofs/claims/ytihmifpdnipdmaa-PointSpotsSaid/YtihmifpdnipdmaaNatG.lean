/-
  The natural numbers of the program, part G: division by one limb. Plain theorems; no condition.
-/
import Derived.Test.YtihmifpdnipdmaaNatF
set_option linter.all false
namespace Go.Gm
open Go.Proofs

theorem or_limb (r x : Nat) (hr : r < 4294967296) (hx : x < 4294967296) : bits .or .u64 (IntKind.u64.wrap ((r : Int) * 2 ^ min (32 : Int).toNat IntKind.u64.bits)) (IntKind.u64.wrap (x : Int)) = ((r * 4294967296 + x : Nat) : Int) := by
  have e1 : IntKind.u64.wrap ((r : Int) * 2 ^ min (32 : Int).toNat IntKind.u64.bits) = ((r * 4294967296 : Nat) : Int) := by
    rw [show (2 : Int) ^ min (32 : Int).toNat IntKind.u64.bits = 4294967296 by decide, wU64]
    omega
  have e2 : IntKind.u64.wrap (x : Int) = (x : Int) := by rw [wU64]; omega
  rw [e1, e2]
  have e3 : r * 4294967296 + x = r * 4294967296 ||| x := by
    have := Nat.shiftLeft_add_eq_or_of_lt (b := x) (i := 32) (by omega) r
    rwa [Nat.shiftLeft_eq] at this
  have hb : bits .or .u64 ((r * 4294967296 : Nat) : Int) (x : Int) = IntKind.u64.wrap ((BitVec.ofInt 64 ((r * 4294967296 : Nat) : Int) ||| BitVec.ofInt 64 (x : Int)).toNat : Int) := rfl
  rw [hb, BitVec.toNat_or, BitVec.ofInt_natCast, BitVec.ofInt_natCast, BitVec.toNat_ofNat, BitVec.toNat_ofNat, Nat.mod_eq_of_lt (by omega), Nat.mod_eq_of_lt (by omega), ← e3, wU64]
  omega

theorem nv_cons_drop (l : List Nat) (k : Nat) (h0 : 0 < k) (hk : k ≤ l.length) : nv (l.drop (k - 1)) = l.getD (k - 1) 0 + B * nv (l.drop k) := by
  rw [List.drop_eq_getElem_cons (i := k - 1) (by omega), List.getD_eq_getElem?_getD, List.getElem?_eq_getElem (by omega), show k - 1 + 1 = k by omega]
  rfl

theorem set_rep (out : List Nat) (k v : Nat) (hk : 0 < k) : (List.replicate k 0 ++ out).set (k - 1) v = List.replicate (k - 1) 0 ++ (v :: out) := by
  obtain ⟨m, rfl⟩ : ∃ m, k = m + 1 := ⟨k - 1, by omega⟩
  rw [List.replicate_succ', List.append_assoc, List.set_append_right _ _ (by simp)]
  simp

theorem resS {l l' : List Nat} {x y : Int} (h : l = l') (h' : x = y) : Res.t [.one (.nat l), .val (.int .u32 x)] = Res.t [.one (.nat l'), .val (.int .u32 y)] := by rw [h, h']

def sShort : List RV → Option (Prop × Res)
  | [.one (.b (.nat l)), .one (.b (.val (.int .u32 d)))] => some (l.length ≤ 100000 ∧ 0 < d ∧ d < 4294967296, .t [.one (.nat (dg (nv l / d.toNat))), .val (.int .u32 (nv l % d.toNat : Nat))])
  | _ => none

set_option maxHeartbeats 1000000 in
theorem ok_natShort : Ok1 174 sShort := by
  refine ok_of TD0_ok Try.func174 rfl (by kernel_rfl) ?_
  intro xs pre res h hp hlim
  unfold sShort at h
  split at h
  · rename_i l dd
    cases h
    have hl : Lim l := hlim.1
    obtain ⟨hp1, hp2, hp3⟩ := hp
    obtain ⟨d, rfl⟩ : ∃ d : Nat, dd = (d : Int) := ⟨dd.toNat, by omega⟩
    rw [Int.toNat_natCast]
    have hw : IntKind.i64.wrap ((l.length : Int) - 1) = (l.length : Int) - 1 := wI (by omega) (by omega)
    have hd64 : IntKind.u64.wrap ((d : Nat) : Int) = (d : Int) := wU (by omega) (by omega)
    refine And.intro (Nat.le_of_ble_eq_true rfl) ?_
    repeat first | refine And.intro rfl ?_ | refine Or.inl (And.intro rfl ?_) | refine Or.inr (And.intro rfl ?_) | refine And.intro (fun (_ : true = true) => ?_) (fun (h : true = false) => Bool.noConfusion h) | refine And.intro (fun (h : false = true) => Bool.noConfusion h) (fun (_ : false = false) => ?_)
    refine And.intro (show 0 ≤ (l.length : Int) ∧ (l.length : Int) ≤ l.length ∧ (l.length : Int) ≤ 1000000 by omega) ?_
    repeat first | refine And.intro rfl ?_ | refine Or.inl (And.intro rfl ?_) | refine Or.inr (And.intro rfl ?_) | refine And.intro (fun (_ : true = true) => ?_) (fun (h : true = false) => Bool.noConfusion h) | refine And.intro (fun (h : false = true) => Bool.noConfusion h) (fun (_ : false = false) => ?_)
    refine Exists.intro {s : Nat × Nat × List Nat // s.1 ≤ l.length ∧ s.2.1 < d ∧ Lim s.2.2 ∧ s.2.2.length + s.1 = l.length ∧ nv (l.drop s.1) = nv s.2.2 * d + s.2.1} (Exists.intro (fun s => ⟨[(0, .one (.nat l)), (1, .val (.int .u32 (d : Nat))), (6, .own 0), (7, .val (.int .u64 (s.1.2.1 : Nat))), (8, .val (.int .i64 ((s.1.1 : Int) - 1)))], ⟨[], [.n 128 (List.replicate s.1.1 0 ++ s.1.2.2)]⟩⟩) (Exists.intro (fun s => s.1.1) (Exists.intro ⟨(l.length, 0, []), Nat.le_refl _, (show 0 < d by omega), Lim.nil, (show ([] : List Nat).length + l.length = l.length by simp), (show nv (l.drop l.length) = nv [] * d + 0 by simp [nv])⟩ (And.intro ?_ ?_))))
    · repeat first | exact trivial | refine And.intro rfl ?_ | refine And.intro trivial ?_ | refine And.intro (And.intro rfl trivial) ?_ | refine And.intro (And.intro rfl (And.intro rfl trivial)) ?_
      refine And.intro (And.intro (rwN ?_) trivial) ?_
      · show List.replicate (l.length : Int).toNat 0 = List.replicate l.length 0 ++ []
        simp
      · repeat first | exact trivial | refine And.intro rfl ?_ | refine And.intro trivial ?_ | refine And.intro (And.intro rfl trivial) ?_ | refine And.intro (And.intro rfl (And.intro rfl trivial)) ?_
        exact And.intro (avI hw) trivial
    · rintro ⟨⟨k, r, out⟩, hk1, hr, hlo, hol, hinv⟩
      simp only at hk1 hr hlo hol hinv
      have hrow : (List.replicate k 0 ++ out).length = l.length := by simp; omega
      repeat first | refine And.intro rfl ?_ | refine Or.inl (And.intro rfl ?_) | refine Or.inr (And.intro rfl ?_) | refine And.intro (fun (_ : true = true) => ?_) (fun (h : true = false) => Bool.noConfusion h) | refine And.intro (fun (h : false = true) => Bool.noConfusion h) (fun (_ : false = false) => ?_)
      refine And.intro (fun hc => ?_) (fun hc => ?_)
      · have hk : 0 < k := by have : (k : Int) - 1 ≥ 0 := of_decide_eq_true hc; omega
        have ek : ((k : Int) - 1).toNat = k - 1 := by omega
        have hx : l.getD (k - 1) 0 < 4294967296 := hl.getD (k - 1)
        have hdp : 0 < d := by omega
        obtain ⟨T, hT⟩ : ∃ T, T = r * 4294967296 + l.getD (k - 1) 0 := ⟨_, rfl⟩
        have hTd : T / d < 4294967296 := by
          rw [Nat.div_lt_iff_lt_mul hdp, hT]
          have : (r + 1) * 4294967296 ≤ d * 4294967296 := Nat.mul_le_mul_right _ (by omega)
          omega
        have hT1 : T < 18446744073709551616 := by omega
        have eo : bits .or .u64 (IntKind.u64.wrap ((r : Int) * 2 ^ min (32 : Int).toNat IntKind.u64.bits)) (IntKind.u64.wrap ((l.getD ((k : Int) - 1).toNat 0 : Nat) : Int)) = ((T : Nat) : Int) := by rw [ek, or_limb _ _ (by omega) hx, hT]
        obtain ⟨Q, hQ⟩ : ∃ Q, Q = T / d := ⟨_, rfl⟩
        rw [← hQ] at hTd
        have eq : IntKind.u64.wrap (Int.tdiv ((T : Nat) : Int) ((d : Nat) : Int)) = ((Q : Nat) : Int) := by
          rw [← Int.ofNat_tdiv, ← hQ]
          exact wU (by omega) (by omega)
        have e32 : IntKind.u32.wrap ((Q : Nat) : Int) = ((Q : Nat) : Int) := by rw [wU32]; omega
        have er : Int.tmod ((T : Nat) : Int) ((d : Nat) : Int) = ((T % d : Nat) : Int) := (Int.ofNat_tmod _ _).symm
        repeat first | refine And.intro rfl ?_ | refine Or.inl (And.intro rfl ?_) | refine Or.inr (And.intro rfl ?_) | refine And.intro (fun (_ : true = true) => ?_) (fun (h : true = false) => Bool.noConfusion h) | refine And.intro (fun (h : false = true) => Bool.noConfusion h) (fun (_ : false = false) => ?_)
        refine And.intro (show 0 ≤ (32 : Int) by decide) ?_
        repeat first | refine And.intro rfl ?_ | refine Or.inl (And.intro rfl ?_) | refine Or.inr (And.intro rfl ?_) | refine And.intro (fun (_ : true = true) => ?_) (fun (h : true = false) => Bool.noConfusion h) | refine And.intro (fun (h : false = true) => Bool.noConfusion h) (fun (_ : false = false) => ?_)
        refine And.intro (show 0 ≤ (k : Int) - 1 ∧ (k : Int) - 1 < l.length by omega) ?_
        repeat first | refine And.intro rfl ?_ | refine Or.inl (And.intro rfl ?_) | refine Or.inr (And.intro rfl ?_) | refine And.intro (fun (_ : true = true) => ?_) (fun (h : true = false) => Bool.noConfusion h) | refine And.intro (fun (h : false = true) => Bool.noConfusion h) (fun (_ : false = false) => ?_)
        refine And.intro (show IntKind.u64.wrap ((d : Nat) : Int) ≠ 0 by rw [hd64]; omega) ?_
        repeat first | refine And.intro rfl ?_ | refine Or.inl (And.intro rfl ?_) | refine Or.inr (And.intro rfl ?_) | refine And.intro (fun (_ : true = true) => ?_) (fun (h : true = false) => Bool.noConfusion h) | refine And.intro (fun (h : false = true) => Bool.noConfusion h) (fun (_ : false = false) => ?_)
        refine And.intro (show 0 ≤ (k : Int) - 1 ∧ (k : Int) - 1 < (List.replicate k 0 ++ out).length by rw [hrow]; omega) ?_
        repeat first | refine And.intro rfl ?_ | refine Or.inl (And.intro rfl ?_) | refine Or.inr (And.intro rfl ?_) | refine And.intro (fun (_ : true = true) => ?_) (fun (h : true = false) => Bool.noConfusion h) | refine And.intro (fun (h : false = true) => Bool.noConfusion h) (fun (_ : false = false) => ?_)
        refine And.intro (show ((k : Int) - 1).toNat < (List.replicate k 0 ++ out).length ∧ 0 ≤ IntKind.u32.wrap (IntKind.u64.wrap (Int.tdiv _ _)) ∧ IntKind.u32.wrap (IntKind.u64.wrap (Int.tdiv _ _)) < 4294967296 by rw [eo, hd64, eq, e32, hrow]; omega) ?_
        repeat first | refine And.intro rfl ?_ | refine Or.inl (And.intro rfl ?_) | refine Or.inr (And.intro rfl ?_) | refine And.intro (fun (_ : true = true) => ?_) (fun (h : true = false) => Bool.noConfusion h) | refine And.intro (fun (h : false = true) => Bool.noConfusion h) (fun (_ : false = false) => ?_)
        refine And.intro (show IntKind.u64.wrap ((d : Nat) : Int) ≠ 0 by rw [hd64]; omega) ?_
        repeat first | refine And.intro rfl ?_ | refine Or.inl (And.intro rfl ?_) | refine Or.inr (And.intro rfl ?_) | refine And.intro (fun (_ : true = true) => ?_) (fun (h : true = false) => Bool.noConfusion h) | refine And.intro (fun (h : false = true) => Bool.noConfusion h) (fun (_ : false = false) => ?_)
        refine Exists.intro ⟨(k - 1, T % d, Q :: out), (show k - 1 ≤ _ by omega), Nat.mod_lt _ hdp, Lim.cons hTd hlo, (show (Q :: out).length + (k - 1) = _ by simp; omega), ?_⟩ (And.intro (show k - 1 < k by omega) ?_)
        · show nv (l.drop (k - 1)) = (Q + B * nv out) * d + T % d
          rw [nv_cons_drop l k hk hk1, hinv, B_eq]
          have e := Nat.div_add_mod T d
          rw [← hQ] at e
          rw [Nat.add_mul, Nat.mul_comm Q d, Nat.mul_add, Nat.mul_assoc]
          omega
        · repeat first | exact trivial | refine And.intro rfl ?_ | refine And.intro trivial ?_ | refine And.intro (And.intro rfl trivial) ?_ | refine And.intro (And.intro rfl (And.intro rfl trivial)) ?_
          refine And.intro (And.intro (rwN ?_) trivial) ?_
          · show (List.replicate k 0 ++ out).set ((k : Int) - 1).toNat (IntKind.u32.wrap (IntKind.u64.wrap (Int.tdiv _ _))).toNat = List.replicate (k - 1) 0 ++ (Q :: out)
            rw [eo, hd64, eq, e32, ek, Int.toNat_natCast]
            exact set_rep out k _ hk
          · repeat first | exact trivial | refine And.intro rfl ?_ | refine And.intro trivial ?_ | refine And.intro (And.intro rfl trivial) ?_ | refine And.intro (And.intro rfl (And.intro rfl trivial)) ?_
            refine And.intro (avI (show Int.tmod _ _ = ((T % d : Nat) : Int) by rw [eo, hd64, er])) ?_
            repeat first | exact trivial | refine And.intro rfl ?_ | refine And.intro trivial ?_ | refine And.intro (And.intro rfl trivial) ?_ | refine And.intro (And.intro rfl (And.intro rfl trivial)) ?_
            exact And.intro (avI (show IntKind.i64.wrap ((k : Int) - 1 - 1) = ((k - 1 : Nat) : Int) - 1 by rw [wI (by omega) (by omega)]; omega)) trivial
      · have hk : k = 0 := by have : ¬ (k : Int) - 1 ≥ 0 := of_decide_eq_false hc; omega
        subst hk
        rw [List.drop_zero] at hinv
        have e32 : IntKind.u32.wrap ((r : Nat) : Int) = (r : Int) := by rw [wU32]; omega
        have hdp : 0 < d := by omega
        repeat first | refine And.intro rfl ?_ | refine Or.inl (And.intro rfl ?_) | refine Or.inr (And.intro rfl ?_) | refine And.intro (fun (_ : true = true) => ?_) (fun (h : true = false) => Bool.noConfusion h) | refine And.intro (fun (h : false = true) => Bool.noConfusion h) (fun (_ : false = false) => ?_)
        refine And.intro (show (List.replicate 0 0 ++ out).length ≤ 1000000 by simp; omega) ?_
        refine resS (congrArg dg ?_) ?_
        · show nv out = nv l / d
          rw [hinv, Nat.mul_comm, Nat.mul_add_div hdp, Nat.div_eq_of_lt hr, Nat.add_zero]
        · show IntKind.u32.wrap ((r : Nat) : Int) = ((nv l % d : Nat) : Int)
          rw [e32, hinv, Nat.mul_comm, Nat.mul_add_mod, Nat.mod_eq_of_lt hr]
  · cases h

end Go.Gm
