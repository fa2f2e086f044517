/-
  The points of the reference, part C: Round, Small, Grid. Plain theorems; no condition.
-/
import Derived.Test.YtihmifpdnipdmaaR8
import Derived.Test.YtihmifpdnipdmaaAw2
set_option linter.all false
namespace Go.Gm
open Go.Proofs

set_option maxHeartbeats 1000000 in
theorem ok_kRound : Ok1 124 sRound := by
  refine ok_of TRK2_ok Try.func124 rfl (by kernel_rfl) ?_
  intro xs pre res h hp hlim
  unfold sRound at h
  split at h
  · rename_i s l t
    cases h
    have hl : Lim l := hlim.1.2.1
    have ht : Lim t := hlim.1.2.2.1
    obtain ⟨p1, p2⟩ := hp
    have zz : Sz 30000 (rq s l t) := szq0 hl ht p1 p2 (by decide)
    refine And.intro (Nat.le_of_ble_eq_true rfl) ?_
    repeat first | refine And.intro rfl ?_ | refine Or.inl (And.intro rfl ?_) | refine Or.inr (And.intro rfl ?_) | refine And.intro (fun (_ : true = true) => ?_) (fun (h : true = false) => Bool.noConfusion h) | refine And.intro (fun (h : false = true) => Bool.noConfusion h) (fun (_ : false = false) => ?_)
    refine And.intro (show l.length ≤ 80000 ∧ t.length ≤ 80000 ∧ DivFit (nv t) from ⟨by omega, by omega, trivial⟩) ?_
    generalize rq s l t = q at zz
    obtain ⟨N, hN⟩ : ∃ N : Nat, N = 30000 := ⟨_, rfl⟩
    rw [← hN] at zz
    have ln : (dg q.num.natAbs).length ≤ N := zz.lenN (Nat.le_refl _)
    have ld : (dg q.den).length ≤ N := zz.lenD (Nat.le_refl _)
    have l2 : (dg (2 : Int).toNat).length ≤ 1 := dg_len_of_lt 2 1 (by rw [B_eq]; decide)
    have b2 : (dg (q.num.natAbs + q.num.natAbs)).length ≤ N + 1 := len_add zz.1 zz.1
    have b3 : (dg (q.num.natAbs + q.num.natAbs + q.den)).length ≤ N + 1 + 1 := len_add (lt_dg b2) (Nat.lt_of_lt_of_le zz.2 (pow_le (by omega)))
    have b4 : (dg (q.den + q.den)).length ≤ N + 1 := len_add zz.2 zz.2
    have e2 : ∀ n : Nat, (2 : Int).toNat * n = n + n := fun n => by show 2 * n = n + n; omega
    repeat first | refine And.intro rfl ?_ | refine Or.inl (And.intro rfl ?_) | refine Or.inr (And.intro rfl ?_) | refine And.intro (fun (_ : true = true) => ?_) (fun (h : true = false) => Bool.noConfusion h) | refine And.intro (fun (h : false = true) => Bool.noConfusion h) (fun (_ : false = false) => ?_)
    refine And.intro (show (0 : Int) ≤ 2 ∧ (2 : Int) < 18446744073709551616 by decide) ?_
    repeat first | refine And.intro rfl ?_ | refine Or.inl (And.intro rfl ?_) | refine Or.inr (And.intro rfl ?_) | refine And.intro (fun (_ : true = true) => ?_) (fun (h : true = false) => Bool.noConfusion h) | refine And.intro (fun (h : false = true) => Bool.noConfusion h) (fun (_ : false = false) => ?_)
    refine And.intro (show (dg (2 : Int).toNat).length ≤ 100000 ∧ (dg q.num.natAbs).length ≤ 100000 by omega) ?_
    rw [nv_dg, nv_dg, e2]
    repeat first | refine And.intro rfl ?_ | refine Or.inl (And.intro rfl ?_) | refine Or.inr (And.intro rfl ?_) | refine And.intro (fun (_ : true = true) => ?_) (fun (h : true = false) => Bool.noConfusion h) | refine And.intro (fun (h : false = true) => Bool.noConfusion h) (fun (_ : false = false) => ?_)
    refine And.intro (show (dg (q.num.natAbs + q.num.natAbs)).length ≤ 100000 ∧ (dg q.den).length ≤ 100000 by omega) ?_
    rw [nv_dg, nv_dg]
    repeat first | refine And.intro rfl ?_ | refine Or.inl (And.intro rfl ?_) | refine Or.inr (And.intro rfl ?_) | refine And.intro (fun (_ : true = true) => ?_) (fun (h : true = false) => Bool.noConfusion h) | refine And.intro (fun (h : false = true) => Bool.noConfusion h) (fun (_ : false = false) => ?_)
    refine And.intro (show (dg (2 : Int).toNat).length ≤ 100000 ∧ (dg q.den).length ≤ 100000 by omega) ?_
    rw [nv_dg, nv_dg, e2]
    repeat first | refine And.intro rfl ?_ | refine Or.inl (And.intro rfl ?_) | refine Or.inr (And.intro rfl ?_) | refine And.intro (fun (_ : true = true) => ?_) (fun (h : true = false) => Bool.noConfusion h) | refine And.intro (fun (h : false = true) => Bool.noConfusion h) (fun (_ : false = false) => ?_)
    refine And.intro (show (dg (q.num.natAbs + q.num.natAbs + q.den)).length ≤ 100000 ∧ (dg (q.den + q.den)).length ≤ 100000 ∧ DivFit _ from ⟨by omega, by omega, trivial⟩) ?_
    rw [nv_dg, nv_dg]
    repeat first | refine And.intro rfl ?_ | refine Or.inl (And.intro rfl ?_) | refine Or.inr (And.intro rfl ?_) | refine And.intro (fun (_ : true = true) => ?_) (fun (h : true = false) => Bool.noConfusion h) | refine And.intro (fun (h : false = true) => Bool.noConfusion h) (fun (_ : false = false) => ?_)
    refine And.intro (show (dg ((q.num.natAbs + q.num.natAbs + q.den) / (q.den + q.den))).length ≤ 100000 from Nat.le_trans (len_le (Nat.div_le_self _ _) (lt_dg b3)) (by omega)) ?_
    rw [nv_dg]
    repeat first | refine And.intro rfl ?_ | refine Or.inl (And.intro rfl ?_) | refine Or.inr (And.intro rfl ?_) | refine And.intro (fun (_ : true = true) => ?_) (fun (h : true = false) => Bool.noConfusion h) | refine And.intro (fun (h : false = true) => Bool.noConfusion h) (fun (_ : false = false) => ?_)
    rfl
  · cases h

set_option maxHeartbeats 2000000 in
theorem ok_jSmall : Ok1 123 sSmall := by
  refine ok_of TJ2_ok Try.func123 rfl (by kernel_rfl) ?_
  intro xs pre res h hp hlim
  unfold sSmall at h
  split at h
  · rename_i s l
    cases h
    refine And.intro (Nat.le_of_ble_eq_true rfl) ?_
    repeat first | refine And.intro rfl ?_ | refine Or.inl (And.intro rfl ?_) | refine Or.inr (And.intro rfl ?_) | refine And.intro (fun (_ : true = true) => ?_) (fun (h : true = false) => Bool.noConfusion h) | refine And.intro (fun (h : false = true) => Bool.noConfusion h) (fun (_ : false = false) => ?_)
    refine And.intro hp ?_
    generalize sg s (nv l) = z
    have no : ¬ inI z = true → (0 : Int) = smI z ∧ false = inI z := by
      intro h
      have : inI z = false := by simpa using h
      unfold smI
      rw [this]
      exact ⟨rfl, rfl⟩
    have yes : inI z = true → z = smI z ∧ true = inI z := by
      intro h
      unfold smI
      rw [h]
      exact ⟨rfl, rfl⟩
    repeat first | refine And.intro rfl ?_ | refine Or.inl (And.intro rfl ?_) | refine Or.inr (And.intro rfl ?_) | refine And.intro (fun (_ : true = true) => ?_) (fun (h : true = false) => Bool.noConfusion h) | refine And.intro (fun (h : false = true) => Bool.noConfusion h) (fun (_ : false = false) => ?_)
    refine And.intro (fun hc => ?_) (fun hc => ?_)
    · have hc : (((dg z.natAbs).length : Nat) : Int) > 2 := of_decide_eq_true hc
      have hbig : ¬ inI z = true := by
        intro h
        have h' := of_decide_eq_true h
        have := dg_len_of_lt z.natAbs 2 (by rw [B_eq]; omega)
        omega
      repeat first | refine And.intro rfl ?_ | refine Or.inl (And.intro rfl ?_) | refine Or.inr (And.intro rfl ?_) | refine And.intro (fun (_ : true = true) => ?_) (fun (h : true = false) => Bool.noConfusion h) | refine And.intro (fun (h : false = true) => Bool.noConfusion h) (fun (_ : false = false) => ?_)
      exact resSm (no hbig).1 (no hbig).2
    · have hc : ¬ (((dg z.natAbs).length : Nat) : Int) > 2 := of_decide_eq_false hc
      have hlm := dg_lim z.natAbs
      have hw0 : IntKind.i64.wrap ((((dg z.natAbs).length : Nat) : Int) - 1) = (((dg z.natAbs).length : Nat) : Int) - 1 := wI (by omega) (by omega)
      repeat first | refine And.intro rfl ?_ | refine Or.inl (And.intro rfl ?_) | refine Or.inr (And.intro rfl ?_) | refine And.intro (fun (_ : true = true) => ?_) (fun (h : true = false) => Bool.noConfusion h) | refine And.intro (fun (h : false = true) => Bool.noConfusion h) (fun (_ : false = false) => ?_)
      refine Exists.intro {k : Nat // k ≤ (dg z.natAbs).length} (Exists.intro (fun k => ⟨[(4, .ptr 1 0), (5, .val (.int .u64 (nv ((dg z.natAbs).drop k.1) : Nat))), (6, .val (.int .i64 ((k.1 : Nat) - 1 : Int)))], ⟨[(34, [.val (.bool s), .nat l]), (34, [.val (.bool (decide (z < 0))), .nat (dg z.natAbs)])], []⟩⟩) (Exists.intro (fun k => k.1) (Exists.intro ⟨(dg z.natAbs).length, Nat.le_refl _⟩ (And.intro ?_ ?_))))
      · repeat first | exact trivial | refine And.intro rfl ?_ | refine And.intro trivial ?_ | refine And.intro (And.intro rfl trivial) ?_ | refine And.intro (And.intro rfl (And.intro rfl trivial)) ?_
        refine And.intro (avI ?_) ?_
        · rw [List.drop_of_length_le (Nat.le_refl _)]
          rfl
        · repeat first | exact trivial | refine And.intro rfl ?_ | refine And.intro trivial ?_ | refine And.intro (And.intro rfl trivial) ?_ | refine And.intro (And.intro rfl (And.intro rfl trivial)) ?_
          exact And.intro (avI hw0) trivial
      · rintro ⟨k, hk⟩
        repeat first | refine And.intro rfl ?_ | refine Or.inl (And.intro rfl ?_) | refine Or.inr (And.intro rfl ?_) | refine And.intro (fun (_ : true = true) => ?_) (fun (h : true = false) => Bool.noConfusion h) | refine And.intro (fun (h : false = true) => Bool.noConfusion h) (fun (_ : false = false) => ?_)
        refine And.intro (fun hc => ?_) (fun hc => ?_)
        · have hk' : (k : Int) - 1 ≥ 0 := of_decide_eq_true hc
          obtain ⟨j, rfl⟩ : ∃ j, k = j + 1 := ⟨k - 1, by omega⟩
          have hx : (dg z.natAbs).getD j 0 < 4294967296 := by
            have := hlm.getD j
            rwa [B_eq] at this
          have hn : nv ((dg z.natAbs).drop (j + 1)) < 4294967296 := by
            have h1 := nv_lt (hlm.drop (j + 1))
            have h2 : B ^ ((dg z.natAbs).drop (j + 1)).length ≤ B ^ 1 := Nat.pow_le_pow_right (by rw [B_eq]; decide) (by rw [List.length_drop]; omega)
            rw [Nat.pow_one] at h2
            have h3 := Nat.lt_of_lt_of_le h1 h2
            rwa [B_eq] at h3
          have ed : nv ((dg z.natAbs).drop j) = (dg z.natAbs).getD j 0 + 4294967296 * nv ((dg z.natAbs).drop (j + 1)) := by
            have := nv_cons_drop (dg z.natAbs) (j + 1) (by omega) hk
            rwa [Nat.add_sub_cancel, B_eq] at this
          have ej : (((j + 1 : Nat) : Int) - 1).toNat = j := by omega
          generalize nv ((dg z.natAbs).drop (j + 1)) = m at hn ed
          repeat first | refine And.intro rfl ?_ | refine Or.inl (And.intro rfl ?_) | refine Or.inr (And.intro rfl ?_) | refine And.intro (fun (_ : true = true) => ?_) (fun (h : true = false) => Bool.noConfusion h) | refine And.intro (fun (h : false = true) => Bool.noConfusion h) (fun (_ : false = false) => ?_)
          refine And.intro (show 0 ≤ ((j + 1 : Nat) : Int) - 1 ∧ ((j + 1 : Nat) : Int) - 1 < (((dg z.natAbs).length : Nat) : Int) by omega) ?_
          rw [ej]
          generalize (dg z.natAbs).getD j 0 = x at hx ed
          repeat first | refine And.intro rfl ?_ | refine Or.inl (And.intro rfl ?_) | refine Or.inr (And.intro rfl ?_) | refine And.intro (fun (_ : true = true) => ?_) (fun (h : true = false) => Bool.noConfusion h) | refine And.intro (fun (h : false = true) => Bool.noConfusion h) (fun (_ : false = false) => ?_)
          refine Exists.intro ⟨j, by omega⟩ (And.intro (show j < j + 1 by omega) ?_)
          repeat first | exact trivial | refine And.intro rfl ?_ | refine And.intro trivial ?_ | refine And.intro (And.intro rfl trivial) ?_ | refine And.intro (And.intro rfl (And.intro rfl trivial)) ?_
          refine And.intro (avI ?_) ?_
          · rw [ed, wU64, wU64, wU64]
            omega
          · repeat first | exact trivial | refine And.intro rfl ?_ | refine And.intro trivial ?_ | refine And.intro (And.intro rfl trivial) ?_ | refine And.intro (And.intro rfl (And.intro rfl trivial)) ?_
            exact And.intro (avI (show IntKind.i64.wrap (((j + 1 : Nat) : Int) - 1 - 1) = (j : Int) - 1 by rw [wI (by omega) (by omega)]; omega)) trivial
        · have hk' : ¬ (k : Int) - 1 ≥ 0 := of_decide_eq_false hc
          have hk0 : k = 0 := by omega
          subst hk0
          have eW : ((nv ((dg z.natAbs).drop 0) : Nat) : Int) = ((z.natAbs : Nat) : Int) := by rw [List.drop_zero, nv_dg]
          generalize ((nv ((dg z.natAbs).drop 0) : Nat) : Int) = W at eW
          by_cases hz : z < 0
          · repeat first | refine And.intro rfl ?_ | refine Or.inl (And.intro rfl ?_) | refine Or.inr (And.intro rfl ?_) | refine And.intro (fun (_ : true = true) => ?_) (fun (h : true = false) => Bool.noConfusion h) | refine And.intro (fun (h : false = true) => Bool.noConfusion h) (fun (_ : false = false) => ?_)
            refine Or.inl (And.intro (decide_eq_true hz) ?_)
            repeat first | refine And.intro rfl ?_ | refine Or.inl (And.intro rfl ?_) | refine Or.inr (And.intro rfl ?_) | refine And.intro (fun (_ : true = true) => ?_) (fun (h : true = false) => Bool.noConfusion h) | refine And.intro (fun (h : false = true) => Bool.noConfusion h) (fun (_ : false = false) => ?_)
            refine And.intro (fun hc => ?_) (fun hc => ?_)
            · have hle : W ≤ 9223372036854775808 := of_decide_eq_true hc
              have hin : inI z = true := decide_eq_true (by omega)
              repeat first | refine And.intro rfl ?_ | refine Or.inl (And.intro rfl ?_) | refine Or.inr (And.intro rfl ?_) | refine And.intro (fun (_ : true = true) => ?_) (fun (h : true = false) => Bool.noConfusion h) | refine And.intro (fun (h : false = true) => Bool.noConfusion h) (fun (_ : false = false) => ?_)
              refine resSm ?_ (yes hin).2
              rw [← (yes hin).1]
              show IntKind.i64.wrap (IntKind.i64.wrap (0 - IntKind.i64.wrap (IntKind.u64.wrap (W - 1))) - 1) = z
              rw [wU64, IntKind.wrap_i64, IntKind.wrap_i64, IntKind.wrap_i64]
              omega
            · have hle : ¬ W ≤ 9223372036854775808 := of_decide_eq_false hc
              have hin : ¬ inI z = true := fun h => by have := of_decide_eq_true h; omega
              repeat first | refine And.intro rfl ?_ | refine Or.inl (And.intro rfl ?_) | refine Or.inr (And.intro rfl ?_) | refine And.intro (fun (_ : true = true) => ?_) (fun (h : true = false) => Bool.noConfusion h) | refine And.intro (fun (h : false = true) => Bool.noConfusion h) (fun (_ : false = false) => ?_)
              refine Or.inr (And.intro (show (!decide (z < 0)) = false by simp [hz]) ?_)
              repeat first | refine And.intro rfl ?_ | refine Or.inl (And.intro rfl ?_) | refine Or.inr (And.intro rfl ?_) | refine And.intro (fun (_ : true = true) => ?_) (fun (h : true = false) => Bool.noConfusion h) | refine And.intro (fun (h : false = true) => Bool.noConfusion h) (fun (_ : false = false) => ?_)
              exact resSm (no hin).1 (no hin).2
          · repeat first | refine And.intro rfl ?_ | refine Or.inl (And.intro rfl ?_) | refine Or.inr (And.intro rfl ?_) | refine And.intro (fun (_ : true = true) => ?_) (fun (h : true = false) => Bool.noConfusion h) | refine And.intro (fun (h : false = true) => Bool.noConfusion h) (fun (_ : false = false) => ?_)
            refine Or.inr (And.intro (decide_eq_false hz) ?_)
            repeat first | refine And.intro rfl ?_ | refine Or.inl (And.intro rfl ?_) | refine Or.inr (And.intro rfl ?_) | refine And.intro (fun (_ : true = true) => ?_) (fun (h : true = false) => Bool.noConfusion h) | refine And.intro (fun (h : false = true) => Bool.noConfusion h) (fun (_ : false = false) => ?_)
            refine Or.inl (And.intro (show (!decide (z < 0)) = true by simp [hz]) ?_)
            repeat first | refine And.intro rfl ?_ | refine Or.inl (And.intro rfl ?_) | refine Or.inr (And.intro rfl ?_) | refine And.intro (fun (_ : true = true) => ?_) (fun (h : true = false) => Bool.noConfusion h) | refine And.intro (fun (h : false = true) => Bool.noConfusion h) (fun (_ : false = false) => ?_)
            refine And.intro (fun hc => ?_) (fun hc => ?_)
            · have hle : W ≤ 9223372036854775807 := of_decide_eq_true hc
              have hin : inI z = true := decide_eq_true (by omega)
              repeat first | refine And.intro rfl ?_ | refine Or.inl (And.intro rfl ?_) | refine Or.inr (And.intro rfl ?_) | refine And.intro (fun (_ : true = true) => ?_) (fun (h : true = false) => Bool.noConfusion h) | refine And.intro (fun (h : false = true) => Bool.noConfusion h) (fun (_ : false = false) => ?_)
              refine resSm ?_ (yes hin).2
              rw [← (yes hin).1]
              show IntKind.i64.wrap W = z
              rw [IntKind.wrap_i64]
              omega
            · have hle : ¬ W ≤ 9223372036854775807 := of_decide_eq_false hc
              have hin : ¬ inI z = true := fun h => by have := of_decide_eq_true h; omega
              repeat first | refine And.intro rfl ?_ | refine Or.inl (And.intro rfl ?_) | refine Or.inr (And.intro rfl ?_) | refine And.intro (fun (_ : true = true) => ?_) (fun (h : true = false) => Bool.noConfusion h) | refine And.intro (fun (h : false = true) => Bool.noConfusion h) (fun (_ : false = false) => ?_)
              exact resSm (no hin).1 (no hin).2
  · cases h

def TR8D : Table := [(123, sSmall), (124, sRound)]
theorem TR8D_ok : TabOk TR8D := TabOk.cons ok_jSmall (TabOk.cons ok_kRound TabOk.nil)


theorem resGrid {x y e x' y' e' : Int} (h : x = x') (h' : y = y') (h2 : e = e') : Res.t [.agg [.val (.int .i64 x), .val (.int .i64 y)], .val (.int .i64 e)] = Res.t [.agg [.val (.int .i64 x'), .val (.int .i64 y')], .val (.int .i64 e')] := by rw [h, h', h2]
theorem inG_smI {z : Int} (h : inI z = true) : smI z = z := by unfold smI; rw [h]; rfl
theorem inG_inI {z : Int} (h : ¬ inI z = true) : inG z = false := decide_eq_false (fun h' => h (decide_eq_true (by omega)))

set_option maxHeartbeats 2000000 in
theorem ok_r8Grid : Ok1 67 sGrid := by
  refine ok_of TR8D_ok Try.func67 rfl (by kernel_rfl) ?_
  intro xs pre res h hp hlim
  unfold sGrid at h
  split at h
  · rename_i s l t z k u
    cases h
    have hl : Lim l := hlim.1.2.1
    have ht : Lim t := hlim.1.2.2.1
    have hk : Lim k := hlim.1.2.2.2.2.1
    have hu : Lim u := hlim.1.2.2.2.2.2.1
    obtain ⟨p1, p2, p3, p4⟩ := hp
    have lx : (dg (rnd (rq s l t)).natAbs).length ≤ 100000 := by
      obtain ⟨N, hN⟩ : ∃ N : Nat, N = 30000 := ⟨_, rfl⟩
      rw [← hN] at p1 p2
      have := rnd_len (Sz.rq (s := s) hl ht p1 p2) (by omega)
      omega
    have ly : (dg (rnd (rq z k u)).natAbs).length ≤ 100000 := by
      obtain ⟨N, hN⟩ : ∃ N : Nat, N = 30000 := ⟨_, rfl⟩
      rw [← hN] at p3 p4
      have := rnd_len (Sz.rq (s := z) hk hu p3 p4) (by omega)
      omega
    have hg : grdB (rq s l t, rq z k u) = (inG (rnd (rq s l t)) && inG (rnd (rq z k u))) := rfl
    rw [hg]
    refine And.intro (Nat.le_of_ble_eq_true rfl) ?_
    repeat first | refine And.intro rfl ?_ | refine Or.inl (And.intro rfl ?_) | refine Or.inr (And.intro rfl ?_) | refine And.intro (fun (_ : true = true) => ?_) (fun (h : true = false) => Bool.noConfusion h) | refine And.intro (fun (h : false = true) => Bool.noConfusion h) (fun (_ : false = false) => ?_)
    refine And.intro (And.intro p1 p2) ?_
    generalize rnd (rq s l t) = x at lx hg
    repeat first | refine And.intro rfl ?_ | refine Or.inl (And.intro rfl ?_) | refine Or.inr (And.intro rfl ?_) | refine And.intro (fun (_ : true = true) => ?_) (fun (h : true = false) => Bool.noConfusion h) | refine And.intro (fun (h : false = true) => Bool.noConfusion h) (fun (_ : false = false) => ?_)
    refine And.intro lx ?_
    rw [sg_CI]
    repeat first | refine And.intro rfl ?_ | refine Or.inl (And.intro rfl ?_) | refine Or.inr (And.intro rfl ?_) | refine And.intro (fun (_ : true = true) => ?_) (fun (h : true = false) => Bool.noConfusion h) | refine And.intro (fun (h : false = true) => Bool.noConfusion h) (fun (_ : false = false) => ?_)
    refine And.intro (And.intro p3 p4) ?_
    generalize rnd (rq z k u) = y at ly hg
    repeat first | refine And.intro rfl ?_ | refine Or.inl (And.intro rfl ?_) | refine Or.inr (And.intro rfl ?_) | refine And.intro (fun (_ : true = true) => ?_) (fun (h : true = false) => Bool.noConfusion h) | refine And.intro (fun (h : false = true) => Bool.noConfusion h) (fun (_ : false = false) => ?_)
    refine And.intro ly ?_
    rw [sg_CI]
    cases hix : inI x with
    | false =>
      have hgf : (inG x && inG y) = false := by rw [inG_inI (z := x) (by rw [hix]; simp)]; rfl
      rw [hgf]
      repeat first | refine And.intro rfl ?_ | refine And.intro True.intro ?_ | refine Or.inl (And.intro rfl ?_) | refine Or.inr (And.intro rfl ?_) | refine And.intro (fun (_ : true = true) => ?_) (fun (h : true = false) => Bool.noConfusion h) | refine And.intro (fun (h : false = true) => Bool.noConfusion h) (fun (_ : false = false) => ?_)
      rfl
    | true =>
      rw [inG_smI hix]
      cases hiy : inI y with
      | false =>
        have hgf : (inG x && inG y) = false := by rw [inG_inI (z := y) (by rw [hiy]; simp)]; simp
        rw [hgf]
        repeat first | refine And.intro rfl ?_ | refine And.intro True.intro ?_ | refine Or.inl (And.intro rfl ?_) | refine Or.inr (And.intro rfl ?_) | refine And.intro (fun (_ : true = true) => ?_) (fun (h : true = false) => Bool.noConfusion h) | refine And.intro (fun (h : false = true) => Bool.noConfusion h) (fun (_ : false = false) => ?_)
        rfl
      | true =>
        rw [inG_smI hiy]
        repeat first | refine And.intro rfl ?_ | refine And.intro True.intro ?_ | refine Or.inl (And.intro rfl ?_) | refine Or.inr (And.intro rfl ?_) | refine And.intro (fun (_ : true = true) => ?_) (fun (h : true = false) => Bool.noConfusion h) | refine And.intro (fun (h : false = true) => Bool.noConfusion h) (fun (_ : false = false) => ?_)
        by_cases c1 : x < -1048576
        case pos =>
          have hgf : (inG x && inG y) = false := by rw [show inG x = false from decide_eq_false (by omega)]; simp
          rw [hgf]
          refine Or.inr (And.intro (decide_eq_true c1) ?_)
          repeat first | refine And.intro rfl ?_ | refine And.intro True.intro ?_ | refine Or.inl (And.intro rfl ?_) | refine Or.inr (And.intro rfl ?_) | refine And.intro (fun (_ : true = true) => ?_) (fun (h : true = false) => Bool.noConfusion h) | refine And.intro (fun (h : false = true) => Bool.noConfusion h) (fun (_ : false = false) => ?_)
          rfl
        refine Or.inl (And.intro (decide_eq_false c1) ?_)
        repeat first | refine And.intro rfl ?_ | refine And.intro True.intro ?_ | refine Or.inl (And.intro rfl ?_) | refine Or.inr (And.intro rfl ?_) | refine And.intro (fun (_ : true = true) => ?_) (fun (h : true = false) => Bool.noConfusion h) | refine And.intro (fun (h : false = true) => Bool.noConfusion h) (fun (_ : false = false) => ?_)
        by_cases c2 : x > 1048576
        case pos =>
          have hgf : (inG x && inG y) = false := by rw [show inG x = false from decide_eq_false (by omega)]; simp
          rw [hgf]
          refine Or.inr (And.intro (decide_eq_true c2) ?_)
          repeat first | refine And.intro rfl ?_ | refine And.intro True.intro ?_ | refine Or.inl (And.intro rfl ?_) | refine Or.inr (And.intro rfl ?_) | refine And.intro (fun (_ : true = true) => ?_) (fun (h : true = false) => Bool.noConfusion h) | refine And.intro (fun (h : false = true) => Bool.noConfusion h) (fun (_ : false = false) => ?_)
          rfl
        refine Or.inl (And.intro (decide_eq_false c2) ?_)
        repeat first | refine And.intro rfl ?_ | refine And.intro True.intro ?_ | refine Or.inl (And.intro rfl ?_) | refine Or.inr (And.intro rfl ?_) | refine And.intro (fun (_ : true = true) => ?_) (fun (h : true = false) => Bool.noConfusion h) | refine And.intro (fun (h : false = true) => Bool.noConfusion h) (fun (_ : false = false) => ?_)
        by_cases c3 : y < -1048576
        case pos =>
          have hgf : (inG x && inG y) = false := by rw [show inG y = false from decide_eq_false (by omega)]; simp
          rw [hgf]
          refine Or.inr (And.intro (decide_eq_true c3) ?_)
          repeat first | refine And.intro rfl ?_ | refine And.intro True.intro ?_ | refine Or.inl (And.intro rfl ?_) | refine Or.inr (And.intro rfl ?_) | refine And.intro (fun (_ : true = true) => ?_) (fun (h : true = false) => Bool.noConfusion h) | refine And.intro (fun (h : false = true) => Bool.noConfusion h) (fun (_ : false = false) => ?_)
          rfl
        refine Or.inl (And.intro (decide_eq_false c3) ?_)
        repeat first | refine And.intro rfl ?_ | refine And.intro True.intro ?_ | refine Or.inl (And.intro rfl ?_) | refine Or.inr (And.intro rfl ?_) | refine And.intro (fun (_ : true = true) => ?_) (fun (h : true = false) => Bool.noConfusion h) | refine And.intro (fun (h : false = true) => Bool.noConfusion h) (fun (_ : false = false) => ?_)
        refine And.intro (fun hc => ?_) (fun hc => ?_)
        · have hc : y > 1048576 := of_decide_eq_true hc
          have hgf : (inG x && inG y) = false := by rw [show inG y = false from decide_eq_false (by omega)]; simp
          rw [hgf]
          repeat first | refine And.intro rfl ?_ | refine And.intro True.intro ?_ | refine Or.inl (And.intro rfl ?_) | refine Or.inr (And.intro rfl ?_) | refine And.intro (fun (_ : true = true) => ?_) (fun (h : true = false) => Bool.noConfusion h) | refine And.intro (fun (h : false = true) => Bool.noConfusion h) (fun (_ : false = false) => ?_)
          rfl
        · have hc : ¬ y > 1048576 := of_decide_eq_false hc
          have hgt : (inG x && inG y) = true := by rw [show inG x = true from decide_eq_true (by omega), show inG y = true from decide_eq_true (by omega)]; rfl
          rw [hgt]
          repeat first | refine And.intro rfl ?_ | refine And.intro True.intro ?_ | refine Or.inl (And.intro rfl ?_) | refine Or.inr (And.intro rfl ?_) | refine And.intro (fun (_ : true = true) => ?_) (fun (h : true = false) => Bool.noConfusion h) | refine And.intro (fun (h : false = true) => Bool.noConfusion h) (fun (_ : false = false) => ?_)
          rfl
  · cases h

end Go.Gm
