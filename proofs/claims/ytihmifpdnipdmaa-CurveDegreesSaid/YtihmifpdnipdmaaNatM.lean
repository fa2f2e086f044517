/-
  The natural numbers of the program, part M: a digit of the quotient. Plain theorems; no condition.
-/
import Derived.Test.YtihmifpdnipdmaaDigB
set_option linter.all false
namespace Go.Gm
open Go.Proofs

def dDigit (l : List Nat) (lo m : Nat) (v : List Nat) : Option (Prop × List Nat × Int) :=
  some (2 ≤ v.length ∧ m = v.length + 1 ∧ lo + m ≤ l.length ∧ l.length ≤ 200000 ∧ 2147483648 ≤ v.getD (v.length - 1) 0 ∧ nv ((l.drop lo).take m) < B * nv v,
    l.take lo ++ lk m (nv ((l.drop lo).take m) % nv v) ++ l.drop (lo + m), ((nv ((l.drop lo).take m) / nv v : Nat) : Int))

set_option maxHeartbeats 1000000 in
theorem ok_digit : OkD 177 dDigit := by
  refine okD_of TabOk.nil Try.func177 rfl (by kernel_rfl) rfl (by decide) ?_
  intro l lo m v pre l' q h hp hl hv e o
  unfold dDigit at h
  cases h
  obtain ⟨hp1, hp2, hp3, hp4, hp5, hp6⟩ := hp
  obtain ⟨a, ha⟩ : ∃ a, a = l.take lo := ⟨_, rfl⟩
  obtain ⟨u, hu⟩ : ∃ u, u = (l.drop lo).take m := ⟨_, rfl⟩
  obtain ⟨c, hc⟩ : ∃ c, c = l.drop (lo + m) := ⟨_, rfl⟩
  have hall : l = a ++ u ++ c := by
    rw [ha, hu, hc, List.append_assoc, ← List.drop_drop, List.take_append_drop, List.take_append_drop]
  have hla : a.length = lo := by rw [ha, List.length_take]; omega
  have hlu : u.length = m := by rw [hu, List.length_take, List.length_drop]; omega
  have hlim : Lim u := by rw [hu]; exact (hl.drop lo).take m
  rw [← hu] at hp6 ⊢
  rw [← ha, ← hc]
  clear ha hu hc
  subst hall
  obtain ⟨n, hn⟩ : ∃ n, v.length = n + 2 := ⟨v.length - 2, by omega⟩
  have hm : m = n + 3 := by omega
  subst hm
  clear hl
  have hvl : ((v.length : Nat) : Int) = ((n + 2 : Nat) : Int) := by rw [hn]
  have hrowl : (a ++ u ++ c).length = lo + (n + 3) + c.length := by simp [hla, hlu]; omega
  have hn4 : n ≤ 200000 := by omega
  have w1 : IntKind.i64.wrap ((v.length : Int) - 1) = ((n + 1 : Nat) : Int) := by rw [wI (by omega) (by omega)]; omega
  have w2 : IntKind.i64.wrap ((v.length : Int) - 2) = ((n : Nat) : Int) := by rw [wI (by omega) (by omega)]; omega
  have hun : u.getD n 0 < 4294967296 := hlim.getD n
  have hun1 : u.getD (n + 1) 0 < 4294967296 := hlim.getD (n + 1)
  have hun2 : u.getD (n + 2) 0 < 4294967296 := hlim.getD (n + 2)
  have hvn : v.getD n 0 < 4294967296 := hv.getD n
  have hvn1 : v.getD (n + 1) 0 < 4294967296 := hv.getD (n + 1)
  rw [show v.length - 1 = n + 1 by omega] at hp5
  obtain ⟨top, htop⟩ : ∃ top, top = u.getD (n + 2) 0 * 4294967296 + u.getD (n + 1) 0 := ⟨_, rfl⟩
  obtain ⟨high, hhigh⟩ : ∃ high, high = v.getD (n + 1) 0 := ⟨_, rfl⟩
  have hU := nv_three u n hlu
  have hV := nv_twoTop v n hn
  have etop : u.getD (n + 1) 0 + B * u.getD (n + 2) 0 = top := by rw [htop, B_eq]; omega
  rw [etop] at hU
  rw [← hhigh] at hV hp5 hvn1
  have hltu : nv (u.take n) < B ^ n := by have := nv_lt (hlim.take n); rwa [List.length_take, Nat.min_eq_left (by omega)] at this
  have hltv : nv (v.take n) < B ^ n := by have := nv_lt (hv.take n); rwa [List.length_take, Nat.min_eq_left (by omega)] at this
  have htB := dig_top hU hV hltv hvn hp6
  have ht64 : top < 18446744073709551616 := by omega
  have eT : bits .or .u64 (IntKind.u64.wrap (IntKind.u64.wrap (((a ++ u ++ c).getD (lo + (v.length : Int).toNat) 0 : Nat) : Int) * 2 ^ min (32 : Int).toNat IntKind.u64.bits)) (IntKind.u64.wrap (((a ++ u ++ c).getD (lo + (IntKind.i64.wrap ((v.length : Int) - 1)).toNat) 0 : Nat) : Int)) = ((top : Nat) : Int) := by
    rw [w1, hvl, Int.toNat_natCast, Int.toNat_natCast, gAC _ _ _ hla (by omega), gAC _ _ _ hla (by omega), wU (x := ((u.getD (n + 2) 0 : Nat) : Int)) (by omega) (by omega), or_limb _ _ hun2 hun1, htop]
  have eH : IntKind.u64.wrap ((v.getD (IntKind.i64.wrap ((v.length : Int) - 1)).toNat 0 : Nat) : Int) = ((high : Nat) : Int) := by
    rw [w1, Int.toNat_natCast, ← hhigh, wU (by omega) (by omega)]
  repeat first | refine And.intro rfl ?_ | refine Or.inl (And.intro rfl ?_) | refine Or.inr (And.intro rfl ?_) | refine And.intro (fun (_ : true = true) => ?_) (fun (h : true = false) => Bool.noConfusion h) | refine And.intro (fun (h : false = true) => Bool.noConfusion h) (fun (_ : false = false) => ?_)
  refine And.intro (show 0 ≤ (v.length : Int) ∧ (v.length : Int) < ((n + 3 : Nat) : Int) by omega) ?_
  repeat first | refine And.intro rfl ?_ | refine Or.inl (And.intro rfl ?_) | refine Or.inr (And.intro rfl ?_) | refine And.intro (fun (_ : true = true) => ?_) (fun (h : true = false) => Bool.noConfusion h) | refine And.intro (fun (h : false = true) => Bool.noConfusion h) (fun (_ : false = false) => ?_)
  refine And.intro (show lo + (v.length : Int).toNat < (a ++ u ++ c).length by rw [hrowl]; omega) ?_
  repeat first | refine And.intro rfl ?_ | refine Or.inl (And.intro rfl ?_) | refine Or.inr (And.intro rfl ?_) | refine And.intro (fun (_ : true = true) => ?_) (fun (h : true = false) => Bool.noConfusion h) | refine And.intro (fun (h : false = true) => Bool.noConfusion h) (fun (_ : false = false) => ?_)
  refine And.intro (show 0 ≤ (32 : Int) by decide) ?_
  repeat first | refine And.intro rfl ?_ | refine Or.inl (And.intro rfl ?_) | refine Or.inr (And.intro rfl ?_) | refine And.intro (fun (_ : true = true) => ?_) (fun (h : true = false) => Bool.noConfusion h) | refine And.intro (fun (h : false = true) => Bool.noConfusion h) (fun (_ : false = false) => ?_)
  refine And.intro (show 0 ≤ IntKind.i64.wrap ((v.length : Int) - 1) ∧ IntKind.i64.wrap ((v.length : Int) - 1) < ((n + 3 : Nat) : Int) by rw [w1]; omega) ?_
  repeat first | refine And.intro rfl ?_ | refine Or.inl (And.intro rfl ?_) | refine Or.inr (And.intro rfl ?_) | refine And.intro (fun (_ : true = true) => ?_) (fun (h : true = false) => Bool.noConfusion h) | refine And.intro (fun (h : false = true) => Bool.noConfusion h) (fun (_ : false = false) => ?_)
  refine And.intro (show lo + (IntKind.i64.wrap ((v.length : Int) - 1)).toNat < (a ++ u ++ c).length by rw [w1, hrowl]; omega) ?_
  repeat first | refine And.intro rfl ?_ | refine Or.inl (And.intro rfl ?_) | refine Or.inr (And.intro rfl ?_) | refine And.intro (fun (_ : true = true) => ?_) (fun (h : true = false) => Bool.noConfusion h) | refine And.intro (fun (h : false = true) => Bool.noConfusion h) (fun (_ : false = false) => ?_)
  refine And.intro (show 0 ≤ IntKind.i64.wrap ((v.length : Int) - 1) ∧ IntKind.i64.wrap ((v.length : Int) - 1) < (v.length : Int) by rw [w1]; omega) ?_
  repeat first | refine And.intro rfl ?_ | refine Or.inl (And.intro rfl ?_) | refine Or.inr (And.intro rfl ?_) | refine And.intro (fun (_ : true = true) => ?_) (fun (h : true = false) => Bool.noConfusion h) | refine And.intro (fun (h : false = true) => Bool.noConfusion h) (fun (_ : false = false) => ?_)
  refine And.intro (show IntKind.u64.wrap ((v.getD (IntKind.i64.wrap ((v.length : Int) - 1)).toNat 0 : Nat) : Int) ≠ 0 by rw [eH]; omega) ?_
  repeat first | refine And.intro rfl ?_ | refine Or.inl (And.intro rfl ?_) | refine Or.inr (And.intro rfl ?_) | refine And.intro (fun (_ : true = true) => ?_) (fun (h : true = false) => Bool.noConfusion h) | refine And.intro (fun (h : false = true) => Bool.noConfusion h) (fun (_ : false = false) => ?_)
  refine And.intro (show IntKind.u64.wrap ((v.getD (IntKind.i64.wrap ((v.length : Int) - 1)).toNat 0 : Nat) : Int) ≠ 0 by rw [eH]; omega) ?_
  repeat first | refine And.intro rfl ?_ | refine Or.inl (And.intro rfl ?_) | refine Or.inr (And.intro rfl ?_) | refine And.intro (fun (_ : true = true) => ?_) (fun (h : true = false) => Bool.noConfusion h) | refine And.intro (fun (h : false = true) => Bool.noConfusion h) (fun (_ : false = false) => ?_)
  have hq0 : top / high ≤ 8589934592 := by
    have := Nat.div_le_div (Nat.le_of_lt ht64) hp5 (by decide)
    omega
  have eQ : IntKind.u64.wrap (Int.tdiv ((top : Nat) : Int) ((high : Nat) : Int)) = ((top / high : Nat) : Int) := by
    rw [← Int.ofNat_tdiv]
    generalize top / high = q0 at *
    rw [wU (by omega) (by omega)]
  refine Exists.intro {t : Nat × Nat // top = t.1 * high + t.2 ∧ nv u < (t.1 + 1) * nv v ∧ t.1 ≤ 8589934592 ∧ t.2 < 8589934592} (Exists.intro (fun t => ⟨[(0, .part 0 lo (n + 3) o), (1, .one (.nat v)), (5, .val (.int .i64 (v.length : Nat))), (7, .val (.int .u64 (high : Nat))), (8, .val (.int .u64 (t.1.1 : Nat))), (9, .val (.int .u64 (t.1.2 : Nat)))], ⟨[], [.n e (a ++ u ++ c)]⟩⟩) (Exists.intro (fun t => t.1.1) (Exists.intro ⟨(top / high, top % high), ?_, ?_, hq0, ?_⟩ (And.intro ?_ ?_))))
  · show top = top / high * high + top % high
    rw [Nat.mul_comm, Nat.div_add_mod]
  · refine dig_start hU hV hltu hun ?_
    rw [Nat.mul_comm]
    exact Nat.lt_mul_div_succ top (by omega)
  · show top % high < 8589934592
    have := Nat.mod_lt top (show 0 < high by omega)
    omega
  · repeat first | exact trivial | refine And.intro rfl ?_ | refine And.intro trivial ?_ | refine And.intro (And.intro rfl trivial) ?_ | refine And.intro (And.intro rfl (And.intro rfl trivial)) ?_
    refine And.intro (avI eH) ?_
    repeat first | exact trivial | refine And.intro rfl ?_ | refine And.intro trivial ?_ | refine And.intro (And.intro rfl trivial) ?_ | refine And.intro (And.intro rfl (And.intro rfl trivial)) ?_
    refine And.intro (avI (show IntKind.u64.wrap (Int.tdiv _ _) = ((top / high : Nat) : Int) by rw [eT, eH, eQ])) ?_
    repeat first | exact trivial | refine And.intro rfl ?_ | refine And.intro trivial ?_ | refine And.intro (And.intro rfl trivial) ?_ | refine And.intro (And.intro rfl (And.intro rfl trivial)) ?_
    exact And.intro (avI (show Int.tmod _ _ = ((top % high : Nat) : Int) by rw [eT, eH, ← Int.ofNat_tmod])) trivial
  · rintro ⟨⟨q, r⟩, ht, hUq, hq, hr⟩
    simp only at ht hUq hq hr
    have hq1 : nv u < q * nv v → 1 ≤ q := fun h => by
      rcases Nat.eq_zero_or_pos q with e | e
      · subst e; simp at h
      · exact e
    by_cases h1 : (r : Int) < 4294967296
    · have d1 : decide ((r : Int) < 4294967296) = true := decide_eq_true h1
      by_cases h2 : (q : Int) ≥ 4294967296
      · have d2 : decide ((q : Int) ≥ 4294967296) = true := decide_eq_true h2
        have hov : nv u < q * nv v := dig_over1 hp6 (by rw [B_eq]; omega)
        refine And.intro rfl ?_
        refine Or.inl (And.intro d1 ?_)
        iterate 2 refine Or.inl (And.intro rfl ?_)
        refine Or.inr (And.intro d2 ?_)
        repeat first | refine And.intro rfl ?_ | refine Or.inl (And.intro rfl ?_) | refine Or.inr (And.intro rfl ?_) | refine And.intro (fun (_ : true = true) => ?_) (fun (h : true = false) => Bool.noConfusion h) | refine And.intro (fun (h : false = true) => Bool.noConfusion h) (fun (_ : false = false) => ?_)
        have hq1 := hq1 hov
        refine Exists.intro ⟨(q - 1, r + high), ?_, ?_, (show q - 1 ≤ _ by omega), (show r + high < _ by omega)⟩ (And.intro (show q - 1 < q by omega) ?_)
        · show top = (q - 1) * high + (r + high)
          obtain ⟨p, rfl⟩ : ∃ p, q = p + 1 := ⟨q - 1, by omega⟩
          rw [ht, Nat.add_mul, Nat.add_sub_cancel]
          omega
        · show nv u < (q - 1 + 1) * nv v
          rw [Nat.sub_add_cancel hq1]
          exact hov
        · repeat first | exact trivial | refine And.intro rfl ?_ | refine And.intro trivial ?_ | refine And.intro (And.intro rfl trivial) ?_ | refine And.intro (And.intro rfl (And.intro rfl trivial)) ?_
          refine And.intro (avI (show IntKind.u64.wrap (((q : Nat) : Int) - 1) = ((q - 1 : Nat) : Int) by rw [wU (by omega) (by omega)]; omega)) ?_
          repeat first | exact trivial | refine And.intro rfl ?_ | refine And.intro trivial ?_ | refine And.intro (And.intro rfl trivial) ?_ | refine And.intro (And.intro rfl (And.intro rfl trivial)) ?_
          exact And.intro (avI (show IntKind.u64.wrap (((r : Nat) : Int) + ((high : Nat) : Int)) = ((r + high : Nat) : Int) by rw [wU (by omega) (by omega)]; omega)) trivial
      · have d2 : decide ((q : Int) ≥ 4294967296) = false := decide_eq_false h2
        have hqv : q * v.getD n 0 ≤ 4294967295 * 4294967295 := Nat.mul_le_mul (by omega) (by omega)
        have eL : IntKind.u64.wrap (((q : Nat) : Int) * IntKind.u64.wrap ((v.getD (IntKind.i64.wrap ((v.length : Int) - 2)).toNat 0 : Nat) : Int)) = ((q * v.getD n 0 : Nat) : Int) := by
          rw [w2, Int.toNat_natCast, wU (x := ((v.getD n 0 : Nat) : Int)) (by omega) (by omega), ← Int.natCast_mul]
          generalize q * v.getD n 0 = z at *
          rw [wU (by omega) (by omega)]
        have eR : bits .or .u64 (IntKind.u64.wrap (((r : Nat) : Int) * 2 ^ min (32 : Int).toNat IntKind.u64.bits)) (IntKind.u64.wrap (((a ++ u ++ c).getD (lo + (IntKind.i64.wrap ((v.length : Int) - 2)).toNat) 0 : Nat) : Int)) = ((r * 4294967296 + u.getD n 0 : Nat) : Int) := by
          rw [w2, Int.toNat_natCast, gAC _ _ _ hla (by omega), or_limb _ _ (by omega) hun]
        refine And.intro rfl ?_
        refine Or.inl (And.intro d1 ?_)
        iterate 2 refine Or.inl (And.intro rfl ?_)
        refine Or.inl (And.intro d2 ?_)
        iterate 4 refine Or.inl (And.intro rfl ?_)
        refine And.intro (show 0 ≤ IntKind.i64.wrap ((v.length : Int) - 2) ∧ IntKind.i64.wrap ((v.length : Int) - 2) < (v.length : Int) by rw [w2]; omega) ?_
        repeat first | refine Or.inl (And.intro rfl ?_) | refine Or.inr (And.intro rfl ?_)
        refine And.intro (show 0 ≤ (32 : Int) by decide) ?_
        repeat first | refine Or.inl (And.intro rfl ?_) | refine Or.inr (And.intro rfl ?_)
        refine And.intro (show 0 ≤ IntKind.i64.wrap ((v.length : Int) - 2) ∧ IntKind.i64.wrap ((v.length : Int) - 2) < ((n + 3 : Nat) : Int) by rw [w2]; omega) ?_
        repeat first | refine Or.inl (And.intro rfl ?_) | refine Or.inr (And.intro rfl ?_)
        refine And.intro (show lo + (IntKind.i64.wrap ((v.length : Int) - 2)).toNat < (a ++ u ++ c).length by rw [w2, hrowl]; omega) ?_
        repeat first | refine Or.inl (And.intro rfl ?_) | refine Or.inr (And.intro rfl ?_)
        refine And.intro (fun hc => ?_) (fun hc => ?_)
        · have hc : IntKind.u64.wrap (((q : Nat) : Int) * _) > bits .or .u64 _ _ := of_decide_eq_true hc
          rw [eL, eR] at hc
          have hov : nv u < q * nv v := dig_over2 hU hV hltu ht (by rw [B_eq]; omega)
          repeat first | refine And.intro rfl ?_ | refine Or.inl (And.intro rfl ?_) | refine Or.inr (And.intro rfl ?_) | refine And.intro (fun (_ : true = true) => ?_) (fun (h : true = false) => Bool.noConfusion h) | refine And.intro (fun (h : false = true) => Bool.noConfusion h) (fun (_ : false = false) => ?_)
          have hq1 := hq1 hov
          refine Exists.intro ⟨(q - 1, r + high), ?_, ?_, (show q - 1 ≤ _ by omega), (show r + high < _ by omega)⟩ (And.intro (show q - 1 < q by omega) ?_)
          · show top = (q - 1) * high + (r + high)
            obtain ⟨p, rfl⟩ : ∃ p, q = p + 1 := ⟨q - 1, by omega⟩
            rw [ht, Nat.add_mul, Nat.add_sub_cancel]
            omega
          · show nv u < (q - 1 + 1) * nv v
            rw [Nat.sub_add_cancel hq1]
            exact hov
          · repeat first | exact trivial | refine And.intro rfl ?_ | refine And.intro trivial ?_ | refine And.intro (And.intro rfl trivial) ?_ | refine And.intro (And.intro rfl (And.intro rfl trivial)) ?_
            refine And.intro (avI (show IntKind.u64.wrap (((q : Nat) : Int) - 1) = ((q - 1 : Nat) : Int) by rw [wU (by omega) (by omega)]; omega)) ?_
            repeat first | exact trivial | refine And.intro rfl ?_ | refine And.intro trivial ?_ | refine And.intro (And.intro rfl trivial) ?_ | refine And.intro (And.intro rfl (And.intro rfl trivial)) ?_
            exact And.intro (avI (show IntKind.u64.wrap (((r : Nat) : Int) + ((high : Nat) : Int)) = ((r + high : Nat) : Int) by rw [wU (by omega) (by omega)]; omega)) trivial
        · have hc : ¬ IntKind.u64.wrap (((q : Nat) : Int) * _) > bits .or .u64 _ _ := of_decide_eq_false hc
          rw [eL, eR] at hc
          have hqB : q < 4294967296 := by omega
          have hqU : q * nv v < nv u + nv v := dig_exit hU hV hltv hvn (by omega) ht hqB (.inr (by rw [B_eq]; omega))
          repeat first | refine And.intro rfl ?_ | refine Or.inl (And.intro rfl ?_) | refine Or.inr (And.intro rfl ?_) | refine And.intro (fun (_ : true = true) => ?_) (fun (h : true = false) => Bool.noConfusion h) | refine And.intro (fun (h : false = true) => Bool.noConfusion h) (fun (_ : false = false) => ?_)
          refine Exists.intro {t : Nat × Nat × Nat × List Nat // t.1 ≤ v.length ∧ t.2.1 < 4294967296 ∧ t.2.2.1 ≤ 1 ∧ Lim t.2.2.2 ∧ t.2.2.2.length = n + 3 ∧ t.2.2.2.drop t.1 = u.drop t.1 ∧ nv (t.2.2.2.take t.1) + q * nv (v.take t.1) = nv (u.take t.1) + B ^ t.1 * (t.2.1 + t.2.2.1)} (Exists.intro (fun t => ⟨[(0, .part 0 lo (n + 3) o), (1, .one (.nat v)), (5, .val (.int .i64 (v.length : Nat))), (8, .val (.int .u64 (q : Nat))), (10, .val (.int .u64 (t.1.2.1 : Nat))), (11, .val (.int .u64 (t.1.2.2.1 : Nat))), (76, .one (.nat v)), (77, .val (.int .i64 (v.length : Nat))), (78, .val (.int .i64 (t.1.1 : Nat)))], ⟨[], [.n e (a ++ t.1.2.2.2 ++ c)]⟩⟩) (Exists.intro (fun t => v.length - t.1.1) (Exists.intro ⟨(0, 0, 0, u), Nat.zero_le _, (show 0 < 4294967296 by decide), (show 0 ≤ 1 by decide), hlim, hlu, rfl, (by simp [nv])⟩ (And.intro ?_ ?_))))
          · repeat first | exact trivial | refine And.intro rfl ?_ | refine And.intro trivial ?_ | refine And.intro (And.intro rfl trivial) ?_ | refine And.intro (And.intro rfl (And.intro rfl trivial)) ?_
          · rintro ⟨⟨i, cy, bw, w⟩, hi, hcy, hbw, hlw, hlw2, hdr, hinv⟩
            simp only at hi hcy hbw hlw hlw2 hdr hinv
            have hrw : (a ++ w ++ c).length = lo + (n + 3) + c.length := by simp [hla, hlw2]; omega
            repeat first | refine And.intro rfl ?_ | refine Or.inl (And.intro rfl ?_) | refine Or.inr (And.intro rfl ?_) | refine And.intro (fun (_ : true = true) => ?_) (fun (h : true = false) => Bool.noConfusion h) | refine And.intro (fun (h : false = true) => Bool.noConfusion h) (fun (_ : false = false) => ?_)
            refine And.intro (fun hc => ?_) (fun hc => ?_)
            · have hi' : (i : Int) < v.length := of_decide_eq_true hc
              have hy : v.getD i 0 < 4294967296 := hv.getD i
              have hui : u.getD i 0 < 4294967296 := hlim.getD i
              have hwi : w.getD i 0 = u.getD i 0 := by
                have := congrArg (fun z => z.getD 0 0) hdr
                simpa [List.getD_eq_getElem?_getD] using this
              have hz : q * v.getD i 0 ≤ 4294967295 * 4294967295 := Nat.mul_le_mul (by omega) (by omega)
              obtain ⟨T, hT⟩ : ∃ T, T = cy + q * v.getD i 0 := ⟨_, rfl⟩
              have hT1 : T < 18446744073709551616 := by omega
              have eT2 : IntKind.u64.wrap (((cy : Nat) : Int) + IntKind.u64.wrap (((q : Nat) : Int) * IntKind.u64.wrap ((v.getD (i : Int).toNat 0 : Nat) : Int))) = ((T : Nat) : Int) := by
                rw [Int.toNat_natCast, wU (x := ((v.getD i 0 : Nat) : Int)) (by omega) (by omega), ← Int.natCast_mul, hT]
                generalize q * v.getD i 0 = z at *
                rw [wU (x := ((z : Nat) : Int)) (by omega) (by omega), wU (by omega) (by omega)]
                rfl
              have e32 : IntKind.u32.wrap ((T : Nat) : Int) = ((T % 4294967296 : Nat) : Int) := by rw [wU32]; omega
              obtain ⟨d, hd⟩ : ∃ d, d = (u.getD i 0 + 18446744073709551616 - T % 4294967296 - bw) % 18446744073709551616 := ⟨_, rfl⟩
              have ed : IntKind.u64.wrap (IntKind.u64.wrap (IntKind.u64.wrap (((a ++ w ++ c).getD (lo + (i : Int).toNat) 0 : Nat) : Int) - IntKind.u64.wrap (IntKind.u32.wrap (IntKind.u64.wrap (((cy : Nat) : Int) + IntKind.u64.wrap (((q : Nat) : Int) * IntKind.u64.wrap ((v.getD (i : Int).toNat 0 : Nat) : Int)))))) - ((bw : Nat) : Int)) = ((d : Nat) : Int) := by
                rw [eT2, e32, Int.toNat_natCast, gAC _ _ _ hla (by omega), hwi, hd]
                simp only [wU64]
                omega
              have edx : IntKind.u32.wrap ((d : Nat) : Int) = ((d % 4294967296 : Nat) : Int) := by rw [wU32]; omega
              have eb : Int.fdiv ((d : Nat) : Int) (2 ^ min (63 : Int).toNat IntKind.u64.bits) = ((d / 9223372036854775808 : Nat) : Int) := by rw [fdiv63]; omega
              have hi1 : IntKind.i64.wrap ((i : Int) + 1) = ((i + 1 : Nat) : Int) := by rw [wI (by omega) (by omega)]; omega
              repeat first | refine And.intro rfl ?_ | refine Or.inl (And.intro rfl ?_) | refine Or.inr (And.intro rfl ?_) | refine And.intro (fun (_ : true = true) => ?_) (fun (h : true = false) => Bool.noConfusion h) | refine And.intro (fun (h : false = true) => Bool.noConfusion h) (fun (_ : false = false) => ?_)
              refine And.intro (show 0 ≤ (i : Int) ∧ (i : Int) < (v.length : Int) by omega) ?_
              repeat first | refine And.intro rfl ?_ | refine Or.inl (And.intro rfl ?_) | refine Or.inr (And.intro rfl ?_) | refine And.intro (fun (_ : true = true) => ?_) (fun (h : true = false) => Bool.noConfusion h) | refine And.intro (fun (h : false = true) => Bool.noConfusion h) (fun (_ : false = false) => ?_)
              refine And.intro (show 0 ≤ (i : Int) ∧ (i : Int) < ((n + 3 : Nat) : Int) by omega) ?_
              repeat first | refine And.intro rfl ?_ | refine Or.inl (And.intro rfl ?_) | refine Or.inr (And.intro rfl ?_) | refine And.intro (fun (_ : true = true) => ?_) (fun (h : true = false) => Bool.noConfusion h) | refine And.intro (fun (h : false = true) => Bool.noConfusion h) (fun (_ : false = false) => ?_)
              refine And.intro (show lo + (i : Int).toNat < (a ++ w ++ c).length by rw [hrw]; omega) ?_
              repeat first | refine And.intro rfl ?_ | refine Or.inl (And.intro rfl ?_) | refine Or.inr (And.intro rfl ?_) | refine And.intro (fun (_ : true = true) => ?_) (fun (h : true = false) => Bool.noConfusion h) | refine And.intro (fun (h : false = true) => Bool.noConfusion h) (fun (_ : false = false) => ?_)
              refine And.intro (show 0 ≤ (i : Int) ∧ (i : Int) < ((n + 3 : Nat) : Int) by omega) ?_
              repeat first | refine And.intro rfl ?_ | refine Or.inl (And.intro rfl ?_) | refine Or.inr (And.intro rfl ?_) | refine And.intro (fun (_ : true = true) => ?_) (fun (h : true = false) => Bool.noConfusion h) | refine And.intro (fun (h : false = true) => Bool.noConfusion h) (fun (_ : false = false) => ?_)
              refine And.intro (show lo + (i : Int).toNat < (a ++ w ++ c).length ∧ 0 ≤ IntKind.u32.wrap (IntKind.u64.wrap _) ∧ IntKind.u32.wrap (IntKind.u64.wrap _) < 4294967296 by rw [ed, edx, hrw]; omega) ?_
              repeat first | refine And.intro rfl ?_ | refine Or.inl (And.intro rfl ?_) | refine Or.inr (And.intro rfl ?_) | refine And.intro (fun (_ : true = true) => ?_) (fun (h : true = false) => Bool.noConfusion h) | refine And.intro (fun (h : false = true) => Bool.noConfusion h) (fun (_ : false = false) => ?_)
              refine And.intro (show 0 ≤ (63 : Int) by decide) ?_
              repeat first | refine And.intro rfl ?_ | refine Or.inl (And.intro rfl ?_) | refine Or.inr (And.intro rfl ?_) | refine And.intro (fun (_ : true = true) => ?_) (fun (h : true = false) => Bool.noConfusion h) | refine And.intro (fun (h : false = true) => Bool.noConfusion h) (fun (_ : false = false) => ?_)
              refine And.intro (show 0 ≤ (32 : Int) by decide) ?_
              repeat first | refine And.intro rfl ?_ | refine Or.inl (And.intro rfl ?_) | refine Or.inr (And.intro rfl ?_) | refine And.intro (fun (_ : true = true) => ?_) (fun (h : true = false) => Bool.noConfusion h) | refine And.intro (fun (h : false = true) => Bool.noConfusion h) (fun (_ : false = false) => ?_)
              refine Exists.intro ⟨(i + 1, T / 4294967296, d / 9223372036854775808, w.set i (d % 4294967296)), (show i + 1 ≤ _ by omega), (show T / 4294967296 < 4294967296 by omega), (show d / 9223372036854775808 ≤ 1 by omega), hlw.set i (show d % 4294967296 < 4294967296 by omega), (show (w.set _ _).length = _ by rw [List.length_set]; exact hlw2), ?_, ?_⟩ (And.intro (show v.length - (i + 1) < v.length - i by omega) ?_)
              · show (w.set i (d % 4294967296)).drop (i + 1) = u.drop (i + 1)
                rw [List.drop_set_of_lt (by omega), ← List.drop_drop, hdr, List.drop_drop]
              · exact dsub_step (by omega) hinv (show cy + q * v.getD i 0 = T % 4294967296 + B * (T / 4294967296) by rw [B_eq, ← hT]; omega) (show u.getD i 0 + B * (d / 9223372036854775808) = d % 4294967296 + T % 4294967296 + bw by rw [B_eq]; omega)
              · repeat first | exact trivial | refine And.intro rfl ?_ | refine And.intro trivial ?_ | refine And.intro (And.intro rfl trivial) ?_ | refine And.intro (And.intro rfl (And.intro rfl trivial)) ?_
                refine And.intro (And.intro (rwN ?_) trivial) ?_
                · show (a ++ w ++ c).set (lo + (i : Int).toNat) (IntKind.u32.wrap (IntKind.u64.wrap _)).toNat = a ++ w.set i (d % 4294967296) ++ c
                  rw [ed, edx, Int.toNat_natCast, Int.toNat_natCast, sAC _ _ _ hla (by omega)]
                · repeat first | exact trivial | refine And.intro rfl ?_ | refine And.intro trivial ?_ | refine And.intro (And.intro rfl trivial) ?_ | refine And.intro (And.intro rfl (And.intro rfl trivial)) ?_
                  refine And.intro (avI (show Int.fdiv (IntKind.u64.wrap _) (2 ^ min (32 : Int).toNat IntKind.u64.bits) = ((T / 4294967296 : Nat) : Int) by rw [eT2, fdiv32]; omega)) ?_
                  repeat first | exact trivial | refine And.intro rfl ?_ | refine And.intro trivial ?_ | refine And.intro (And.intro rfl trivial) ?_ | refine And.intro (And.intro rfl (And.intro rfl trivial)) ?_
                  refine And.intro (avI (show Int.fdiv (IntKind.u64.wrap _) (2 ^ min (63 : Int).toNat IntKind.u64.bits) = ((d / 9223372036854775808 : Nat) : Int) by rw [ed, eb])) ?_
                  repeat first | exact trivial | refine And.intro rfl ?_ | refine And.intro trivial ?_ | refine And.intro (And.intro rfl trivial) ?_ | refine And.intro (And.intro rfl (And.intro rfl trivial)) ?_
                  exact And.intro (avI hi1) trivial
            · have hi' : ¬ (i : Int) < v.length := of_decide_eq_false hc
              have hil : i = n + 2 := by omega
              subst hil
              have hwn : w.getD (n + 2) 0 = u.getD (n + 2) 0 := getD_of_drop hdr
              have hvt : v.take (n + 2) = v := List.take_of_length_le (by omega)
              rw [hvt] at hinv
              have hUt := nv_top u (n + 2) hlu
              have hAt := take_len hlw (show n + 2 ≤ w.length by omega)
              obtain ⟨d, hd⟩ : ∃ d, d = (u.getD (n + 2) 0 + 18446744073709551616 - cy - bw) % 18446744073709551616 := ⟨_, rfl⟩
              have ed : IntKind.u64.wrap (IntKind.u64.wrap (IntKind.u64.wrap (((a ++ w ++ c).getD (lo + (v.length : Int).toNat) 0 : Nat) : Int) - ((cy : Nat) : Int)) - ((bw : Nat) : Int)) = ((d : Nat) : Int) := by
                rw [hvl, Int.toNat_natCast, gAC _ _ _ hla (by omega), hwn, hd]
                simp only [wU64]
                omega
              have edx : IntKind.u32.wrap ((d : Nat) : Int) = ((d % 4294967296 : Nat) : Int) := by rw [wU32]; omega
              have eb : Int.fdiv ((d : Nat) : Int) (2 ^ min (63 : Int).toNat IntKind.u64.bits) = ((d / 9223372036854775808 : Nat) : Int) := by rw [fdiv63]; omega
              have erow : (a ++ w ++ c).set (lo + (v.length : Int).toNat) (IntKind.u32.wrap (IntKind.u64.wrap (IntKind.u64.wrap (IntKind.u64.wrap (((a ++ w ++ c).getD (lo + (v.length : Int).toNat) 0 : Nat) : Int) - ((cy : Nat) : Int)) - ((bw : Nat) : Int)))).toNat = a ++ w.set (n + 2) (d % 4294967296) ++ c := by
                rw [ed, edx, hvl, Int.toNat_natCast, Int.toNat_natCast, sAC _ _ _ hla (by omega)]
              have hlz : Lim (w.set (n + 2) (d % 4294967296)) := hlw.set _ (show d % 4294967296 < 4294967296 by omega)
              have hlz2 : (w.set (n + 2) (d % 4294967296)).length = n + 3 := by rw [List.length_set]; exact hlw2
              have hzv := nv_setTop w (n + 2) (d % 4294967296) hlw2
              repeat first | refine And.intro rfl ?_ | refine Or.inl (And.intro rfl ?_) | refine Or.inr (And.intro rfl ?_) | refine And.intro (fun (_ : true = true) => ?_) (fun (h : true = false) => Bool.noConfusion h) | refine And.intro (fun (h : false = true) => Bool.noConfusion h) (fun (_ : false = false) => ?_)
              refine And.intro (show 0 ≤ (v.length : Int) ∧ (v.length : Int) < ((n + 3 : Nat) : Int) by omega) ?_
              repeat first | refine And.intro rfl ?_ | refine Or.inl (And.intro rfl ?_) | refine Or.inr (And.intro rfl ?_) | refine And.intro (fun (_ : true = true) => ?_) (fun (h : true = false) => Bool.noConfusion h) | refine And.intro (fun (h : false = true) => Bool.noConfusion h) (fun (_ : false = false) => ?_)
              refine And.intro (show lo + (v.length : Int).toNat < (a ++ w ++ c).length by rw [hrw]; omega) ?_
              repeat first | refine And.intro rfl ?_ | refine Or.inl (And.intro rfl ?_) | refine Or.inr (And.intro rfl ?_) | refine And.intro (fun (_ : true = true) => ?_) (fun (h : true = false) => Bool.noConfusion h) | refine And.intro (fun (h : false = true) => Bool.noConfusion h) (fun (_ : false = false) => ?_)
              refine And.intro (show 0 ≤ (v.length : Int) ∧ (v.length : Int) < ((n + 3 : Nat) : Int) by omega) ?_
              repeat first | refine And.intro rfl ?_ | refine Or.inl (And.intro rfl ?_) | refine Or.inr (And.intro rfl ?_) | refine And.intro (fun (_ : true = true) => ?_) (fun (h : true = false) => Bool.noConfusion h) | refine And.intro (fun (h : false = true) => Bool.noConfusion h) (fun (_ : false = false) => ?_)
              refine And.intro (show lo + (v.length : Int).toNat < (a ++ w ++ c).length ∧ 0 ≤ IntKind.u32.wrap (IntKind.u64.wrap _) ∧ IntKind.u32.wrap (IntKind.u64.wrap _) < 4294967296 by rw [ed, edx, hrw]; omega) ?_
              repeat first | refine And.intro rfl ?_ | refine Or.inl (And.intro rfl ?_) | refine Or.inr (And.intro rfl ?_) | refine And.intro (fun (_ : true = true) => ?_) (fun (h : true = false) => Bool.noConfusion h) | refine And.intro (fun (h : false = true) => Bool.noConfusion h) (fun (_ : false = false) => ?_)
              refine And.intro (show 0 ≤ (63 : Int) by decide) ?_
              refine And.intro (fun hc => ?_) (fun hc => ?_)
              · have hc : (Int.fdiv (IntKind.u64.wrap _) _ == 0) = true := hc
                rw [ed, eb] at hc
                have hd0 : d / 9223372036854775808 = 0 := by have := eq_of_beq hc; omega
                have hfin := dig_fin hinv hUt (x := d % 4294967296) (show d % 4294967296 + (cy + bw) = u.getD (n + 2) 0 by omega)
                rw [← hzv] at hfin
                obtain ⟨hq2, hr2⟩ := dig_right hUq hfin
                refine And.intro rfl ?_
                refine And.intro (avI ?_) (And.intro rfl (congrArg (fun z => [Rw.n e z]) ?_))
                · show IntKind.u32.wrap ((q : Nat) : Int) = _
                  rw [wU32, ← hq2]
                  omega
                · refine erow.trans ?_
                  rw [lk_of hlz hlz2 hr2]
              · have hc : (Int.fdiv (IntKind.u64.wrap _) _ == 0) = false := hc
                rw [ed, eb] at hc
                have hd0 : d / 9223372036854775808 ≠ 0 := fun h => by rw [h] at hc; cases hc
                obtain ⟨hn1, hn2⟩ := dig_neg hAt hinv hUt (x := d % 4294967296) (show d % 4294967296 + (cy + bw) = u.getD (n + 2) 0 + B by rw [B_eq]; omega) (show u.getD (n + 2) 0 < cy + bw by omega)
                rw [← hzv] at hn2
                obtain ⟨z, hz⟩ : ∃ z, z = w.set (n + 2) (d % 4294967296) := ⟨_, rfl⟩
                obtain ⟨x, hx⟩ : ∃ x, x = d % 4294967296 := ⟨_, rfl⟩
                have hzn : z.getD (n + 2) 0 = x := by rw [hz, hx]; simp [List.getD_eq_getElem?_getD, List.getElem?_set_self (show n + 2 < w.length by omega)]
                rw [← hz] at hlz hlz2 hzv hn2 erow
                rw [← hx] at hzv
                have hzt := nv_top z (n + 2) hlz2
                rw [hzn] at hzt
                repeat first | refine And.intro rfl ?_ | refine Or.inl (And.intro rfl ?_) | refine Or.inr (And.intro rfl ?_) | refine And.intro (fun (_ : true = true) => ?_) (fun (h : true = false) => Bool.noConfusion h) | refine And.intro (fun (h : false = true) => Bool.noConfusion h) (fun (_ : false = false) => ?_)
                refine Exists.intro {t : Nat × Nat × List Nat // t.1 ≤ v.length ∧ t.2.1 ≤ 1 ∧ Lim t.2.2 ∧ t.2.2.length = n + 3 ∧ t.2.2.drop t.1 = z.drop t.1 ∧ nv (t.2.2.take t.1) + B ^ t.1 * t.2.1 = nv (z.take t.1) + nv (v.take t.1)} (Exists.intro (fun t => ⟨[(0, .part 0 lo (n + 3) o), (1, .one (.nat v)), (5, .val (.int .i64 (v.length : Nat))), (8, .val (.int .u64 (q : Nat))), (10, .val (.int .u64 (t.1.2.1 : Nat))), (129, .one (.nat v)), (130, .val (.int .i64 (v.length : Nat))), (131, .val (.int .i64 (t.1.1 : Nat)))], ⟨[], [.n e (a ++ t.1.2.2 ++ c)]⟩⟩) (Exists.intro (fun t => v.length - t.1.1) (Exists.intro ⟨(0, 0, z), Nat.zero_le _, (show 0 ≤ 1 by decide), hlz, hlz2, rfl, (by simp [nv])⟩ (And.intro ?_ ?_))))
                · repeat first | exact trivial | refine And.intro rfl ?_ | refine And.intro trivial ?_ | refine And.intro (And.intro rfl trivial) ?_ | refine And.intro (And.intro rfl (And.intro rfl trivial)) ?_
                  refine And.intro (And.intro (rwN erow) trivial) ?_
                  repeat first | exact trivial | refine And.intro rfl ?_ | refine And.intro trivial ?_ | refine And.intro (And.intro rfl trivial) ?_ | refine And.intro (And.intro rfl (And.intro rfl trivial)) ?_
                · rintro ⟨⟨i, k, y⟩, hi, hk, hly, hly2, hdr3, hinv3⟩
                  simp only at hi hk hly hly2 hdr3 hinv3
                  have hry : (a ++ y ++ c).length = lo + (n + 3) + c.length := by simp [hla, hly2]; omega
                  repeat first | refine And.intro rfl ?_ | refine Or.inl (And.intro rfl ?_) | refine Or.inr (And.intro rfl ?_) | refine And.intro (fun (_ : true = true) => ?_) (fun (h : true = false) => Bool.noConfusion h) | refine And.intro (fun (h : false = true) => Bool.noConfusion h) (fun (_ : false = false) => ?_)
                  refine And.intro (fun hc => ?_) (fun hc => ?_)
                  · have hi' : (i : Int) < v.length := of_decide_eq_true hc
                    have hvi : v.getD i 0 < 4294967296 := hv.getD i
                    have hzi : z.getD i 0 < 4294967296 := hlz.getD i
                    have hyi : y.getD i 0 = z.getD i 0 := getD_of_drop hdr3
                    obtain ⟨T, hT⟩ : ∃ T, T = k + (z.getD i 0 + v.getD i 0) := ⟨_, rfl⟩
                    have eT3 : IntKind.u64.wrap (((k : Nat) : Int) + IntKind.u64.wrap (IntKind.u64.wrap (((a ++ y ++ c).getD (lo + (i : Int).toNat) 0 : Nat) : Int) + IntKind.u64.wrap ((v.getD (i : Int).toNat 0 : Nat) : Int))) = ((T : Nat) : Int) := by
                      rw [Int.toNat_natCast, gAC _ _ _ hla (by omega), hyi, hT]
                      simp only [wU64]
                      omega
                    have e32 : IntKind.u32.wrap ((T : Nat) : Int) = ((T % 4294967296 : Nat) : Int) := by rw [wU32]; omega
                    have hi1 : IntKind.i64.wrap ((i : Int) + 1) = ((i + 1 : Nat) : Int) := by rw [wI (by omega) (by omega)]; omega
                    repeat first | refine And.intro rfl ?_ | refine Or.inl (And.intro rfl ?_) | refine Or.inr (And.intro rfl ?_) | refine And.intro (fun (_ : true = true) => ?_) (fun (h : true = false) => Bool.noConfusion h) | refine And.intro (fun (h : false = true) => Bool.noConfusion h) (fun (_ : false = false) => ?_)
                    refine And.intro (show 0 ≤ (i : Int) ∧ (i : Int) < (v.length : Int) by omega) ?_
                    repeat first | refine And.intro rfl ?_ | refine Or.inl (And.intro rfl ?_) | refine Or.inr (And.intro rfl ?_) | refine And.intro (fun (_ : true = true) => ?_) (fun (h : true = false) => Bool.noConfusion h) | refine And.intro (fun (h : false = true) => Bool.noConfusion h) (fun (_ : false = false) => ?_)
                    refine And.intro (show 0 ≤ (i : Int) ∧ (i : Int) < ((n + 3 : Nat) : Int) by omega) ?_
                    repeat first | refine And.intro rfl ?_ | refine Or.inl (And.intro rfl ?_) | refine Or.inr (And.intro rfl ?_) | refine And.intro (fun (_ : true = true) => ?_) (fun (h : true = false) => Bool.noConfusion h) | refine And.intro (fun (h : false = true) => Bool.noConfusion h) (fun (_ : false = false) => ?_)
                    refine And.intro (show lo + (i : Int).toNat < (a ++ y ++ c).length by rw [hry]; omega) ?_
                    repeat first | refine And.intro rfl ?_ | refine Or.inl (And.intro rfl ?_) | refine Or.inr (And.intro rfl ?_) | refine And.intro (fun (_ : true = true) => ?_) (fun (h : true = false) => Bool.noConfusion h) | refine And.intro (fun (h : false = true) => Bool.noConfusion h) (fun (_ : false = false) => ?_)
                    refine And.intro (show 0 ≤ (i : Int) ∧ (i : Int) < ((n + 3 : Nat) : Int) by omega) ?_
                    repeat first | refine And.intro rfl ?_ | refine Or.inl (And.intro rfl ?_) | refine Or.inr (And.intro rfl ?_) | refine And.intro (fun (_ : true = true) => ?_) (fun (h : true = false) => Bool.noConfusion h) | refine And.intro (fun (h : false = true) => Bool.noConfusion h) (fun (_ : false = false) => ?_)
                    refine And.intro (show lo + (i : Int).toNat < (a ++ y ++ c).length ∧ 0 ≤ IntKind.u32.wrap (IntKind.u64.wrap _) ∧ IntKind.u32.wrap (IntKind.u64.wrap _) < 4294967296 by rw [eT3, e32, hry]; omega) ?_
                    repeat first | refine And.intro rfl ?_ | refine Or.inl (And.intro rfl ?_) | refine Or.inr (And.intro rfl ?_) | refine And.intro (fun (_ : true = true) => ?_) (fun (h : true = false) => Bool.noConfusion h) | refine And.intro (fun (h : false = true) => Bool.noConfusion h) (fun (_ : false = false) => ?_)
                    refine And.intro (show 0 ≤ (32 : Int) by decide) ?_
                    repeat first | refine And.intro rfl ?_ | refine Or.inl (And.intro rfl ?_) | refine Or.inr (And.intro rfl ?_) | refine And.intro (fun (_ : true = true) => ?_) (fun (h : true = false) => Bool.noConfusion h) | refine And.intro (fun (h : false = true) => Bool.noConfusion h) (fun (_ : false = false) => ?_)
                    refine Exists.intro ⟨(i + 1, T / 4294967296, y.set i (T % 4294967296)), (show i + 1 ≤ _ by omega), (show T / 4294967296 ≤ 1 by omega), hly.set i (show T % 4294967296 < 4294967296 by omega), (show (y.set _ _).length = _ by rw [List.length_set]; exact hly2), ?_, ?_⟩ (And.intro (show v.length - (i + 1) < v.length - i by omega) ?_)
                    · show (y.set i (T % 4294967296)).drop (i + 1) = z.drop (i + 1)
                      rw [List.drop_set_of_lt (by omega), ← List.drop_drop, hdr3, List.drop_drop]
                    · exact back_step (by omega) hinv3 (show k + (z.getD i 0 + v.getD i 0) = T % 4294967296 + B * (T / 4294967296) by rw [B_eq, ← hT]; omega)
                    · repeat first | exact trivial | refine And.intro rfl ?_ | refine And.intro trivial ?_ | refine And.intro (And.intro rfl trivial) ?_ | refine And.intro (And.intro rfl (And.intro rfl trivial)) ?_
                      refine And.intro (And.intro (rwN ?_) trivial) ?_
                      · show (a ++ y ++ c).set (lo + (i : Int).toNat) (IntKind.u32.wrap (IntKind.u64.wrap _)).toNat = a ++ y.set i (T % 4294967296) ++ c
                        rw [eT3, e32, Int.toNat_natCast, Int.toNat_natCast, sAC _ _ _ hla (by omega)]
                      · repeat first | exact trivial | refine And.intro rfl ?_ | refine And.intro trivial ?_ | refine And.intro (And.intro rfl trivial) ?_ | refine And.intro (And.intro rfl (And.intro rfl trivial)) ?_
                        refine And.intro (avI (show Int.fdiv (IntKind.u64.wrap _) (2 ^ min (32 : Int).toNat IntKind.u64.bits) = ((T / 4294967296 : Nat) : Int) by rw [eT3, fdiv32]; omega)) ?_
                        repeat first | exact trivial | refine And.intro rfl ?_ | refine And.intro trivial ?_ | refine And.intro (And.intro rfl trivial) ?_ | refine And.intro (And.intro rfl (And.intro rfl trivial)) ?_
                        exact And.intro (avI hi1) trivial
                  · have hi' : ¬ (i : Int) < v.length := of_decide_eq_false hc
                    have hil : i = n + 2 := by omega
                    subst hil
                    rw [hvt] at hinv3
                    have hyn : y.getD (n + 2) 0 = x := (getD_of_drop hdr3).trans hzn
                    have hNt := take_len hly (show n + 2 ≤ y.length by omega)
                    have hVt : nv v ≤ B ^ (n + 2) := by have := nv_lt hv; rw [hn] at this; omega
                    obtain ⟨hx0, hN, hq2⟩ := dig_back (x := x) (c := k) hNt hVt hn1 hqU hn2 (by rw [Nat.mul_add, hzt]; omega) (by rw [B_eq]; omega)
                    have hyv := nv_setTop y (n + 2) 0 hly2
                    have es : IntKind.u32.wrap ((((a ++ y ++ c).getD (lo + (v.length : Int).toNat) 0 : Nat) : Int) + IntKind.u32.wrap ((k : Nat) : Int)) = ((0 : Nat) : Int) := by
                      rw [hvl, Int.toNat_natCast, gAC _ _ _ hla (by omega), hyn]
                      rw [B_eq] at hx0
                      simp only [wU32]
                      omega
                    repeat first | refine And.intro rfl ?_ | refine Or.inl (And.intro rfl ?_) | refine Or.inr (And.intro rfl ?_) | refine And.intro (fun (_ : true = true) => ?_) (fun (h : true = false) => Bool.noConfusion h) | refine And.intro (fun (h : false = true) => Bool.noConfusion h) (fun (_ : false = false) => ?_)
                    refine And.intro (show 0 ≤ (v.length : Int) ∧ (v.length : Int) < ((n + 3 : Nat) : Int) by omega) ?_
                    repeat first | refine And.intro rfl ?_ | refine Or.inl (And.intro rfl ?_) | refine Or.inr (And.intro rfl ?_) | refine And.intro (fun (_ : true = true) => ?_) (fun (h : true = false) => Bool.noConfusion h) | refine And.intro (fun (h : false = true) => Bool.noConfusion h) (fun (_ : false = false) => ?_)
                    refine And.intro (show lo + (v.length : Int).toNat < (a ++ y ++ c).length by rw [hry]; omega) ?_
                    repeat first | refine And.intro rfl ?_ | refine Or.inl (And.intro rfl ?_) | refine Or.inr (And.intro rfl ?_) | refine And.intro (fun (_ : true = true) => ?_) (fun (h : true = false) => Bool.noConfusion h) | refine And.intro (fun (h : false = true) => Bool.noConfusion h) (fun (_ : false = false) => ?_)
                    refine And.intro (show 0 ≤ (v.length : Int) ∧ (v.length : Int) < ((n + 3 : Nat) : Int) by omega) ?_
                    repeat first | refine And.intro rfl ?_ | refine Or.inl (And.intro rfl ?_) | refine Or.inr (And.intro rfl ?_) | refine And.intro (fun (_ : true = true) => ?_) (fun (h : true = false) => Bool.noConfusion h) | refine And.intro (fun (h : false = true) => Bool.noConfusion h) (fun (_ : false = false) => ?_)
                    refine And.intro (show lo + (v.length : Int).toNat < (a ++ y ++ c).length ∧ 0 ≤ IntKind.u32.wrap (_ + _) ∧ IntKind.u32.wrap (_ + _) < 4294967296 by rw [es, hry]; omega) ?_
                    refine And.intro rfl ?_
                    refine And.intro (avI ?_) (And.intro rfl (congrArg (fun z => [Rw.n e z]) ?_))
                    · show IntKind.u32.wrap (IntKind.u64.wrap (((q : Nat) : Int) - 1)) = _
                      rw [← hq2]
                      have : 1 ≤ q := by
                        rcases Nat.eq_zero_or_pos q with e | e
                        · subst e; simp at hn1
                        · exact e
                      rw [wU (by omega) (by omega), wU32]
                      omega
                    · show (a ++ y ++ c).set (lo + (v.length : Int).toNat) (IntKind.u32.wrap (_ + _)).toNat = _
                      rw [es]
                      refine (show (a ++ y ++ c).set (lo + (v.length : Int).toNat) 0 = a ++ y.set (n + 2) 0 ++ c by rw [hvl, Int.toNat_natCast, sAC _ _ _ hla (show n + 2 < y.length by omega)]).trans ?_
                      rw [lk_of (k := n + 3) (hly.set (n + 2) (x := 0) (by decide)) (by rw [List.length_set]; exact hly2) (show nv (y.set (n + 2) 0) = nv u % nv v by rw [hyv, hN, Nat.mul_zero, Nat.add_zero])]
    · have d1 : decide ((r : Int) < 4294967296) = false := decide_eq_false h1
      have hqB : q < 4294967296 := dig_low ht htB (by rw [B_eq]; omega)
      have hqU : q * nv v < nv u + nv v := dig_exit hU hV hltv hvn (by omega) ht hqB (.inl (by rw [B_eq]; omega))
      refine And.intro rfl ?_
      refine Or.inr (And.intro d1 ?_)
      repeat first | refine And.intro rfl ?_ | refine Or.inl (And.intro rfl ?_) | refine Or.inr (And.intro rfl ?_) | refine And.intro (fun (_ : true = true) => ?_) (fun (h : true = false) => Bool.noConfusion h) | refine And.intro (fun (h : false = true) => Bool.noConfusion h) (fun (_ : false = false) => ?_)
      repeat first | refine And.intro rfl ?_ | refine Or.inl (And.intro rfl ?_) | refine Or.inr (And.intro rfl ?_) | refine And.intro (fun (_ : true = true) => ?_) (fun (h : true = false) => Bool.noConfusion h) | refine And.intro (fun (h : false = true) => Bool.noConfusion h) (fun (_ : false = false) => ?_)
      refine Exists.intro {t : Nat × Nat × Nat × List Nat // t.1 ≤ v.length ∧ t.2.1 < 4294967296 ∧ t.2.2.1 ≤ 1 ∧ Lim t.2.2.2 ∧ t.2.2.2.length = n + 3 ∧ t.2.2.2.drop t.1 = u.drop t.1 ∧ nv (t.2.2.2.take t.1) + q * nv (v.take t.1) = nv (u.take t.1) + B ^ t.1 * (t.2.1 + t.2.2.1)} (Exists.intro (fun t => ⟨[(0, .part 0 lo (n + 3) o), (1, .one (.nat v)), (5, .val (.int .i64 (v.length : Nat))), (8, .val (.int .u64 (q : Nat))), (10, .val (.int .u64 (t.1.2.1 : Nat))), (11, .val (.int .u64 (t.1.2.2.1 : Nat))), (76, .one (.nat v)), (77, .val (.int .i64 (v.length : Nat))), (78, .val (.int .i64 (t.1.1 : Nat)))], ⟨[], [.n e (a ++ t.1.2.2.2 ++ c)]⟩⟩) (Exists.intro (fun t => v.length - t.1.1) (Exists.intro ⟨(0, 0, 0, u), Nat.zero_le _, (show 0 < 4294967296 by decide), (show 0 ≤ 1 by decide), hlim, hlu, rfl, (by simp [nv])⟩ (And.intro ?_ ?_))))
      · repeat first | exact trivial | refine And.intro rfl ?_ | refine And.intro trivial ?_ | refine And.intro (And.intro rfl trivial) ?_ | refine And.intro (And.intro rfl (And.intro rfl trivial)) ?_
      · rintro ⟨⟨i, cy, bw, w⟩, hi, hcy, hbw, hlw, hlw2, hdr, hinv⟩
        simp only at hi hcy hbw hlw hlw2 hdr hinv
        have hrw : (a ++ w ++ c).length = lo + (n + 3) + c.length := by simp [hla, hlw2]; omega
        repeat first | refine And.intro rfl ?_ | refine Or.inl (And.intro rfl ?_) | refine Or.inr (And.intro rfl ?_) | refine And.intro (fun (_ : true = true) => ?_) (fun (h : true = false) => Bool.noConfusion h) | refine And.intro (fun (h : false = true) => Bool.noConfusion h) (fun (_ : false = false) => ?_)
        refine And.intro (fun hc => ?_) (fun hc => ?_)
        · have hi' : (i : Int) < v.length := of_decide_eq_true hc
          have hy : v.getD i 0 < 4294967296 := hv.getD i
          have hui : u.getD i 0 < 4294967296 := hlim.getD i
          have hwi : w.getD i 0 = u.getD i 0 := by
            have := congrArg (fun z => z.getD 0 0) hdr
            simpa [List.getD_eq_getElem?_getD] using this
          have hz : q * v.getD i 0 ≤ 4294967295 * 4294967295 := Nat.mul_le_mul (by omega) (by omega)
          obtain ⟨T, hT⟩ : ∃ T, T = cy + q * v.getD i 0 := ⟨_, rfl⟩
          have hT1 : T < 18446744073709551616 := by omega
          have eT2 : IntKind.u64.wrap (((cy : Nat) : Int) + IntKind.u64.wrap (((q : Nat) : Int) * IntKind.u64.wrap ((v.getD (i : Int).toNat 0 : Nat) : Int))) = ((T : Nat) : Int) := by
            rw [Int.toNat_natCast, wU (x := ((v.getD i 0 : Nat) : Int)) (by omega) (by omega), ← Int.natCast_mul, hT]
            generalize q * v.getD i 0 = z at *
            rw [wU (x := ((z : Nat) : Int)) (by omega) (by omega), wU (by omega) (by omega)]
            rfl
          have e32 : IntKind.u32.wrap ((T : Nat) : Int) = ((T % 4294967296 : Nat) : Int) := by rw [wU32]; omega
          obtain ⟨d, hd⟩ : ∃ d, d = (u.getD i 0 + 18446744073709551616 - T % 4294967296 - bw) % 18446744073709551616 := ⟨_, rfl⟩
          have ed : IntKind.u64.wrap (IntKind.u64.wrap (IntKind.u64.wrap (((a ++ w ++ c).getD (lo + (i : Int).toNat) 0 : Nat) : Int) - IntKind.u64.wrap (IntKind.u32.wrap (IntKind.u64.wrap (((cy : Nat) : Int) + IntKind.u64.wrap (((q : Nat) : Int) * IntKind.u64.wrap ((v.getD (i : Int).toNat 0 : Nat) : Int)))))) - ((bw : Nat) : Int)) = ((d : Nat) : Int) := by
            rw [eT2, e32, Int.toNat_natCast, gAC _ _ _ hla (by omega), hwi, hd]
            simp only [wU64]
            omega
          have edx : IntKind.u32.wrap ((d : Nat) : Int) = ((d % 4294967296 : Nat) : Int) := by rw [wU32]; omega
          have eb : Int.fdiv ((d : Nat) : Int) (2 ^ min (63 : Int).toNat IntKind.u64.bits) = ((d / 9223372036854775808 : Nat) : Int) := by rw [fdiv63]; omega
          have hi1 : IntKind.i64.wrap ((i : Int) + 1) = ((i + 1 : Nat) : Int) := by rw [wI (by omega) (by omega)]; omega
          repeat first | refine And.intro rfl ?_ | refine Or.inl (And.intro rfl ?_) | refine Or.inr (And.intro rfl ?_) | refine And.intro (fun (_ : true = true) => ?_) (fun (h : true = false) => Bool.noConfusion h) | refine And.intro (fun (h : false = true) => Bool.noConfusion h) (fun (_ : false = false) => ?_)
          refine And.intro (show 0 ≤ (i : Int) ∧ (i : Int) < (v.length : Int) by omega) ?_
          repeat first | refine And.intro rfl ?_ | refine Or.inl (And.intro rfl ?_) | refine Or.inr (And.intro rfl ?_) | refine And.intro (fun (_ : true = true) => ?_) (fun (h : true = false) => Bool.noConfusion h) | refine And.intro (fun (h : false = true) => Bool.noConfusion h) (fun (_ : false = false) => ?_)
          refine And.intro (show 0 ≤ (i : Int) ∧ (i : Int) < ((n + 3 : Nat) : Int) by omega) ?_
          repeat first | refine And.intro rfl ?_ | refine Or.inl (And.intro rfl ?_) | refine Or.inr (And.intro rfl ?_) | refine And.intro (fun (_ : true = true) => ?_) (fun (h : true = false) => Bool.noConfusion h) | refine And.intro (fun (h : false = true) => Bool.noConfusion h) (fun (_ : false = false) => ?_)
          refine And.intro (show lo + (i : Int).toNat < (a ++ w ++ c).length by rw [hrw]; omega) ?_
          repeat first | refine And.intro rfl ?_ | refine Or.inl (And.intro rfl ?_) | refine Or.inr (And.intro rfl ?_) | refine And.intro (fun (_ : true = true) => ?_) (fun (h : true = false) => Bool.noConfusion h) | refine And.intro (fun (h : false = true) => Bool.noConfusion h) (fun (_ : false = false) => ?_)
          refine And.intro (show 0 ≤ (i : Int) ∧ (i : Int) < ((n + 3 : Nat) : Int) by omega) ?_
          repeat first | refine And.intro rfl ?_ | refine Or.inl (And.intro rfl ?_) | refine Or.inr (And.intro rfl ?_) | refine And.intro (fun (_ : true = true) => ?_) (fun (h : true = false) => Bool.noConfusion h) | refine And.intro (fun (h : false = true) => Bool.noConfusion h) (fun (_ : false = false) => ?_)
          refine And.intro (show lo + (i : Int).toNat < (a ++ w ++ c).length ∧ 0 ≤ IntKind.u32.wrap (IntKind.u64.wrap _) ∧ IntKind.u32.wrap (IntKind.u64.wrap _) < 4294967296 by rw [ed, edx, hrw]; omega) ?_
          repeat first | refine And.intro rfl ?_ | refine Or.inl (And.intro rfl ?_) | refine Or.inr (And.intro rfl ?_) | refine And.intro (fun (_ : true = true) => ?_) (fun (h : true = false) => Bool.noConfusion h) | refine And.intro (fun (h : false = true) => Bool.noConfusion h) (fun (_ : false = false) => ?_)
          refine And.intro (show 0 ≤ (63 : Int) by decide) ?_
          repeat first | refine And.intro rfl ?_ | refine Or.inl (And.intro rfl ?_) | refine Or.inr (And.intro rfl ?_) | refine And.intro (fun (_ : true = true) => ?_) (fun (h : true = false) => Bool.noConfusion h) | refine And.intro (fun (h : false = true) => Bool.noConfusion h) (fun (_ : false = false) => ?_)
          refine And.intro (show 0 ≤ (32 : Int) by decide) ?_
          repeat first | refine And.intro rfl ?_ | refine Or.inl (And.intro rfl ?_) | refine Or.inr (And.intro rfl ?_) | refine And.intro (fun (_ : true = true) => ?_) (fun (h : true = false) => Bool.noConfusion h) | refine And.intro (fun (h : false = true) => Bool.noConfusion h) (fun (_ : false = false) => ?_)
          refine Exists.intro ⟨(i + 1, T / 4294967296, d / 9223372036854775808, w.set i (d % 4294967296)), (show i + 1 ≤ _ by omega), (show T / 4294967296 < 4294967296 by omega), (show d / 9223372036854775808 ≤ 1 by omega), hlw.set i (show d % 4294967296 < 4294967296 by omega), (show (w.set _ _).length = _ by rw [List.length_set]; exact hlw2), ?_, ?_⟩ (And.intro (show v.length - (i + 1) < v.length - i by omega) ?_)
          · show (w.set i (d % 4294967296)).drop (i + 1) = u.drop (i + 1)
            rw [List.drop_set_of_lt (by omega), ← List.drop_drop, hdr, List.drop_drop]
          · exact dsub_step (by omega) hinv (show cy + q * v.getD i 0 = T % 4294967296 + B * (T / 4294967296) by rw [B_eq, ← hT]; omega) (show u.getD i 0 + B * (d / 9223372036854775808) = d % 4294967296 + T % 4294967296 + bw by rw [B_eq]; omega)
          · repeat first | exact trivial | refine And.intro rfl ?_ | refine And.intro trivial ?_ | refine And.intro (And.intro rfl trivial) ?_ | refine And.intro (And.intro rfl (And.intro rfl trivial)) ?_
            refine And.intro (And.intro (rwN ?_) trivial) ?_
            · show (a ++ w ++ c).set (lo + (i : Int).toNat) (IntKind.u32.wrap (IntKind.u64.wrap _)).toNat = a ++ w.set i (d % 4294967296) ++ c
              rw [ed, edx, Int.toNat_natCast, Int.toNat_natCast, sAC _ _ _ hla (by omega)]
            · repeat first | exact trivial | refine And.intro rfl ?_ | refine And.intro trivial ?_ | refine And.intro (And.intro rfl trivial) ?_ | refine And.intro (And.intro rfl (And.intro rfl trivial)) ?_
              refine And.intro (avI (show Int.fdiv (IntKind.u64.wrap _) (2 ^ min (32 : Int).toNat IntKind.u64.bits) = ((T / 4294967296 : Nat) : Int) by rw [eT2, fdiv32]; omega)) ?_
              repeat first | exact trivial | refine And.intro rfl ?_ | refine And.intro trivial ?_ | refine And.intro (And.intro rfl trivial) ?_ | refine And.intro (And.intro rfl (And.intro rfl trivial)) ?_
              refine And.intro (avI (show Int.fdiv (IntKind.u64.wrap _) (2 ^ min (63 : Int).toNat IntKind.u64.bits) = ((d / 9223372036854775808 : Nat) : Int) by rw [ed, eb])) ?_
              repeat first | exact trivial | refine And.intro rfl ?_ | refine And.intro trivial ?_ | refine And.intro (And.intro rfl trivial) ?_ | refine And.intro (And.intro rfl (And.intro rfl trivial)) ?_
              exact And.intro (avI hi1) trivial
        · have hi' : ¬ (i : Int) < v.length := of_decide_eq_false hc
          have hil : i = n + 2 := by omega
          subst hil
          have hwn : w.getD (n + 2) 0 = u.getD (n + 2) 0 := getD_of_drop hdr
          have hvt : v.take (n + 2) = v := List.take_of_length_le (by omega)
          rw [hvt] at hinv
          have hUt := nv_top u (n + 2) hlu
          have hAt := take_len hlw (show n + 2 ≤ w.length by omega)
          obtain ⟨d, hd⟩ : ∃ d, d = (u.getD (n + 2) 0 + 18446744073709551616 - cy - bw) % 18446744073709551616 := ⟨_, rfl⟩
          have ed : IntKind.u64.wrap (IntKind.u64.wrap (IntKind.u64.wrap (((a ++ w ++ c).getD (lo + (v.length : Int).toNat) 0 : Nat) : Int) - ((cy : Nat) : Int)) - ((bw : Nat) : Int)) = ((d : Nat) : Int) := by
            rw [hvl, Int.toNat_natCast, gAC _ _ _ hla (by omega), hwn, hd]
            simp only [wU64]
            omega
          have edx : IntKind.u32.wrap ((d : Nat) : Int) = ((d % 4294967296 : Nat) : Int) := by rw [wU32]; omega
          have eb : Int.fdiv ((d : Nat) : Int) (2 ^ min (63 : Int).toNat IntKind.u64.bits) = ((d / 9223372036854775808 : Nat) : Int) := by rw [fdiv63]; omega
          have erow : (a ++ w ++ c).set (lo + (v.length : Int).toNat) (IntKind.u32.wrap (IntKind.u64.wrap (IntKind.u64.wrap (IntKind.u64.wrap (((a ++ w ++ c).getD (lo + (v.length : Int).toNat) 0 : Nat) : Int) - ((cy : Nat) : Int)) - ((bw : Nat) : Int)))).toNat = a ++ w.set (n + 2) (d % 4294967296) ++ c := by
            rw [ed, edx, hvl, Int.toNat_natCast, Int.toNat_natCast, sAC _ _ _ hla (by omega)]
          have hlz : Lim (w.set (n + 2) (d % 4294967296)) := hlw.set _ (show d % 4294967296 < 4294967296 by omega)
          have hlz2 : (w.set (n + 2) (d % 4294967296)).length = n + 3 := by rw [List.length_set]; exact hlw2
          have hzv := nv_setTop w (n + 2) (d % 4294967296) hlw2
          repeat first | refine And.intro rfl ?_ | refine Or.inl (And.intro rfl ?_) | refine Or.inr (And.intro rfl ?_) | refine And.intro (fun (_ : true = true) => ?_) (fun (h : true = false) => Bool.noConfusion h) | refine And.intro (fun (h : false = true) => Bool.noConfusion h) (fun (_ : false = false) => ?_)
          refine And.intro (show 0 ≤ (v.length : Int) ∧ (v.length : Int) < ((n + 3 : Nat) : Int) by omega) ?_
          repeat first | refine And.intro rfl ?_ | refine Or.inl (And.intro rfl ?_) | refine Or.inr (And.intro rfl ?_) | refine And.intro (fun (_ : true = true) => ?_) (fun (h : true = false) => Bool.noConfusion h) | refine And.intro (fun (h : false = true) => Bool.noConfusion h) (fun (_ : false = false) => ?_)
          refine And.intro (show lo + (v.length : Int).toNat < (a ++ w ++ c).length by rw [hrw]; omega) ?_
          repeat first | refine And.intro rfl ?_ | refine Or.inl (And.intro rfl ?_) | refine Or.inr (And.intro rfl ?_) | refine And.intro (fun (_ : true = true) => ?_) (fun (h : true = false) => Bool.noConfusion h) | refine And.intro (fun (h : false = true) => Bool.noConfusion h) (fun (_ : false = false) => ?_)
          refine And.intro (show 0 ≤ (v.length : Int) ∧ (v.length : Int) < ((n + 3 : Nat) : Int) by omega) ?_
          repeat first | refine And.intro rfl ?_ | refine Or.inl (And.intro rfl ?_) | refine Or.inr (And.intro rfl ?_) | refine And.intro (fun (_ : true = true) => ?_) (fun (h : true = false) => Bool.noConfusion h) | refine And.intro (fun (h : false = true) => Bool.noConfusion h) (fun (_ : false = false) => ?_)
          refine And.intro (show lo + (v.length : Int).toNat < (a ++ w ++ c).length ∧ 0 ≤ IntKind.u32.wrap (IntKind.u64.wrap _) ∧ IntKind.u32.wrap (IntKind.u64.wrap _) < 4294967296 by rw [ed, edx, hrw]; omega) ?_
          repeat first | refine And.intro rfl ?_ | refine Or.inl (And.intro rfl ?_) | refine Or.inr (And.intro rfl ?_) | refine And.intro (fun (_ : true = true) => ?_) (fun (h : true = false) => Bool.noConfusion h) | refine And.intro (fun (h : false = true) => Bool.noConfusion h) (fun (_ : false = false) => ?_)
          refine And.intro (show 0 ≤ (63 : Int) by decide) ?_
          refine And.intro (fun hc => ?_) (fun hc => ?_)
          · have hc : (Int.fdiv (IntKind.u64.wrap _) _ == 0) = true := hc
            rw [ed, eb] at hc
            have hd0 : d / 9223372036854775808 = 0 := by have := eq_of_beq hc; omega
            have hfin := dig_fin hinv hUt (x := d % 4294967296) (show d % 4294967296 + (cy + bw) = u.getD (n + 2) 0 by omega)
            rw [← hzv] at hfin
            obtain ⟨hq2, hr2⟩ := dig_right hUq hfin
            refine And.intro rfl ?_
            refine And.intro (avI ?_) (And.intro rfl (congrArg (fun z => [Rw.n e z]) ?_))
            · show IntKind.u32.wrap ((q : Nat) : Int) = _
              rw [wU32, ← hq2]
              omega
            · refine erow.trans ?_
              rw [lk_of hlz hlz2 hr2]
          · have hc : (Int.fdiv (IntKind.u64.wrap _) _ == 0) = false := hc
            rw [ed, eb] at hc
            have hd0 : d / 9223372036854775808 ≠ 0 := fun h => by rw [h] at hc; cases hc
            obtain ⟨hn1, hn2⟩ := dig_neg hAt hinv hUt (x := d % 4294967296) (show d % 4294967296 + (cy + bw) = u.getD (n + 2) 0 + B by rw [B_eq]; omega) (show u.getD (n + 2) 0 < cy + bw by omega)
            rw [← hzv] at hn2
            obtain ⟨z, hz⟩ : ∃ z, z = w.set (n + 2) (d % 4294967296) := ⟨_, rfl⟩
            obtain ⟨x, hx⟩ : ∃ x, x = d % 4294967296 := ⟨_, rfl⟩
            have hzn : z.getD (n + 2) 0 = x := by rw [hz, hx]; simp [List.getD_eq_getElem?_getD, List.getElem?_set_self (show n + 2 < w.length by omega)]
            rw [← hz] at hlz hlz2 hzv hn2 erow
            rw [← hx] at hzv
            have hzt := nv_top z (n + 2) hlz2
            rw [hzn] at hzt
            repeat first | refine And.intro rfl ?_ | refine Or.inl (And.intro rfl ?_) | refine Or.inr (And.intro rfl ?_) | refine And.intro (fun (_ : true = true) => ?_) (fun (h : true = false) => Bool.noConfusion h) | refine And.intro (fun (h : false = true) => Bool.noConfusion h) (fun (_ : false = false) => ?_)
            refine Exists.intro {t : Nat × Nat × List Nat // t.1 ≤ v.length ∧ t.2.1 ≤ 1 ∧ Lim t.2.2 ∧ t.2.2.length = n + 3 ∧ t.2.2.drop t.1 = z.drop t.1 ∧ nv (t.2.2.take t.1) + B ^ t.1 * t.2.1 = nv (z.take t.1) + nv (v.take t.1)} (Exists.intro (fun t => ⟨[(0, .part 0 lo (n + 3) o), (1, .one (.nat v)), (5, .val (.int .i64 (v.length : Nat))), (8, .val (.int .u64 (q : Nat))), (10, .val (.int .u64 (t.1.2.1 : Nat))), (129, .one (.nat v)), (130, .val (.int .i64 (v.length : Nat))), (131, .val (.int .i64 (t.1.1 : Nat)))], ⟨[], [.n e (a ++ t.1.2.2 ++ c)]⟩⟩) (Exists.intro (fun t => v.length - t.1.1) (Exists.intro ⟨(0, 0, z), Nat.zero_le _, (show 0 ≤ 1 by decide), hlz, hlz2, rfl, (by simp [nv])⟩ (And.intro ?_ ?_))))
            · repeat first | exact trivial | refine And.intro rfl ?_ | refine And.intro trivial ?_ | refine And.intro (And.intro rfl trivial) ?_ | refine And.intro (And.intro rfl (And.intro rfl trivial)) ?_
              refine And.intro (And.intro (rwN erow) trivial) ?_
              repeat first | exact trivial | refine And.intro rfl ?_ | refine And.intro trivial ?_ | refine And.intro (And.intro rfl trivial) ?_ | refine And.intro (And.intro rfl (And.intro rfl trivial)) ?_
            · rintro ⟨⟨i, k, y⟩, hi, hk, hly, hly2, hdr3, hinv3⟩
              simp only at hi hk hly hly2 hdr3 hinv3
              have hry : (a ++ y ++ c).length = lo + (n + 3) + c.length := by simp [hla, hly2]; omega
              repeat first | refine And.intro rfl ?_ | refine Or.inl (And.intro rfl ?_) | refine Or.inr (And.intro rfl ?_) | refine And.intro (fun (_ : true = true) => ?_) (fun (h : true = false) => Bool.noConfusion h) | refine And.intro (fun (h : false = true) => Bool.noConfusion h) (fun (_ : false = false) => ?_)
              refine And.intro (fun hc => ?_) (fun hc => ?_)
              · have hi' : (i : Int) < v.length := of_decide_eq_true hc
                have hvi : v.getD i 0 < 4294967296 := hv.getD i
                have hzi : z.getD i 0 < 4294967296 := hlz.getD i
                have hyi : y.getD i 0 = z.getD i 0 := getD_of_drop hdr3
                obtain ⟨T, hT⟩ : ∃ T, T = k + (z.getD i 0 + v.getD i 0) := ⟨_, rfl⟩
                have eT3 : IntKind.u64.wrap (((k : Nat) : Int) + IntKind.u64.wrap (IntKind.u64.wrap (((a ++ y ++ c).getD (lo + (i : Int).toNat) 0 : Nat) : Int) + IntKind.u64.wrap ((v.getD (i : Int).toNat 0 : Nat) : Int))) = ((T : Nat) : Int) := by
                  rw [Int.toNat_natCast, gAC _ _ _ hla (by omega), hyi, hT]
                  simp only [wU64]
                  omega
                have e32 : IntKind.u32.wrap ((T : Nat) : Int) = ((T % 4294967296 : Nat) : Int) := by rw [wU32]; omega
                have hi1 : IntKind.i64.wrap ((i : Int) + 1) = ((i + 1 : Nat) : Int) := by rw [wI (by omega) (by omega)]; omega
                repeat first | refine And.intro rfl ?_ | refine Or.inl (And.intro rfl ?_) | refine Or.inr (And.intro rfl ?_) | refine And.intro (fun (_ : true = true) => ?_) (fun (h : true = false) => Bool.noConfusion h) | refine And.intro (fun (h : false = true) => Bool.noConfusion h) (fun (_ : false = false) => ?_)
                refine And.intro (show 0 ≤ (i : Int) ∧ (i : Int) < (v.length : Int) by omega) ?_
                repeat first | refine And.intro rfl ?_ | refine Or.inl (And.intro rfl ?_) | refine Or.inr (And.intro rfl ?_) | refine And.intro (fun (_ : true = true) => ?_) (fun (h : true = false) => Bool.noConfusion h) | refine And.intro (fun (h : false = true) => Bool.noConfusion h) (fun (_ : false = false) => ?_)
                refine And.intro (show 0 ≤ (i : Int) ∧ (i : Int) < ((n + 3 : Nat) : Int) by omega) ?_
                repeat first | refine And.intro rfl ?_ | refine Or.inl (And.intro rfl ?_) | refine Or.inr (And.intro rfl ?_) | refine And.intro (fun (_ : true = true) => ?_) (fun (h : true = false) => Bool.noConfusion h) | refine And.intro (fun (h : false = true) => Bool.noConfusion h) (fun (_ : false = false) => ?_)
                refine And.intro (show lo + (i : Int).toNat < (a ++ y ++ c).length by rw [hry]; omega) ?_
                repeat first | refine And.intro rfl ?_ | refine Or.inl (And.intro rfl ?_) | refine Or.inr (And.intro rfl ?_) | refine And.intro (fun (_ : true = true) => ?_) (fun (h : true = false) => Bool.noConfusion h) | refine And.intro (fun (h : false = true) => Bool.noConfusion h) (fun (_ : false = false) => ?_)
                refine And.intro (show 0 ≤ (i : Int) ∧ (i : Int) < ((n + 3 : Nat) : Int) by omega) ?_
                repeat first | refine And.intro rfl ?_ | refine Or.inl (And.intro rfl ?_) | refine Or.inr (And.intro rfl ?_) | refine And.intro (fun (_ : true = true) => ?_) (fun (h : true = false) => Bool.noConfusion h) | refine And.intro (fun (h : false = true) => Bool.noConfusion h) (fun (_ : false = false) => ?_)
                refine And.intro (show lo + (i : Int).toNat < (a ++ y ++ c).length ∧ 0 ≤ IntKind.u32.wrap (IntKind.u64.wrap _) ∧ IntKind.u32.wrap (IntKind.u64.wrap _) < 4294967296 by rw [eT3, e32, hry]; omega) ?_
                repeat first | refine And.intro rfl ?_ | refine Or.inl (And.intro rfl ?_) | refine Or.inr (And.intro rfl ?_) | refine And.intro (fun (_ : true = true) => ?_) (fun (h : true = false) => Bool.noConfusion h) | refine And.intro (fun (h : false = true) => Bool.noConfusion h) (fun (_ : false = false) => ?_)
                refine And.intro (show 0 ≤ (32 : Int) by decide) ?_
                repeat first | refine And.intro rfl ?_ | refine Or.inl (And.intro rfl ?_) | refine Or.inr (And.intro rfl ?_) | refine And.intro (fun (_ : true = true) => ?_) (fun (h : true = false) => Bool.noConfusion h) | refine And.intro (fun (h : false = true) => Bool.noConfusion h) (fun (_ : false = false) => ?_)
                refine Exists.intro ⟨(i + 1, T / 4294967296, y.set i (T % 4294967296)), (show i + 1 ≤ _ by omega), (show T / 4294967296 ≤ 1 by omega), hly.set i (show T % 4294967296 < 4294967296 by omega), (show (y.set _ _).length = _ by rw [List.length_set]; exact hly2), ?_, ?_⟩ (And.intro (show v.length - (i + 1) < v.length - i by omega) ?_)
                · show (y.set i (T % 4294967296)).drop (i + 1) = z.drop (i + 1)
                  rw [List.drop_set_of_lt (by omega), ← List.drop_drop, hdr3, List.drop_drop]
                · exact back_step (by omega) hinv3 (show k + (z.getD i 0 + v.getD i 0) = T % 4294967296 + B * (T / 4294967296) by rw [B_eq, ← hT]; omega)
                · repeat first | exact trivial | refine And.intro rfl ?_ | refine And.intro trivial ?_ | refine And.intro (And.intro rfl trivial) ?_ | refine And.intro (And.intro rfl (And.intro rfl trivial)) ?_
                  refine And.intro (And.intro (rwN ?_) trivial) ?_
                  · show (a ++ y ++ c).set (lo + (i : Int).toNat) (IntKind.u32.wrap (IntKind.u64.wrap _)).toNat = a ++ y.set i (T % 4294967296) ++ c
                    rw [eT3, e32, Int.toNat_natCast, Int.toNat_natCast, sAC _ _ _ hla (by omega)]
                  · repeat first | exact trivial | refine And.intro rfl ?_ | refine And.intro trivial ?_ | refine And.intro (And.intro rfl trivial) ?_ | refine And.intro (And.intro rfl (And.intro rfl trivial)) ?_
                    refine And.intro (avI (show Int.fdiv (IntKind.u64.wrap _) (2 ^ min (32 : Int).toNat IntKind.u64.bits) = ((T / 4294967296 : Nat) : Int) by rw [eT3, fdiv32]; omega)) ?_
                    repeat first | exact trivial | refine And.intro rfl ?_ | refine And.intro trivial ?_ | refine And.intro (And.intro rfl trivial) ?_ | refine And.intro (And.intro rfl (And.intro rfl trivial)) ?_
                    exact And.intro (avI hi1) trivial
              · have hi' : ¬ (i : Int) < v.length := of_decide_eq_false hc
                have hil : i = n + 2 := by omega
                subst hil
                rw [hvt] at hinv3
                have hyn : y.getD (n + 2) 0 = x := (getD_of_drop hdr3).trans hzn
                have hNt := take_len hly (show n + 2 ≤ y.length by omega)
                have hVt : nv v ≤ B ^ (n + 2) := by have := nv_lt hv; rw [hn] at this; omega
                obtain ⟨hx0, hN, hq2⟩ := dig_back (x := x) (c := k) hNt hVt hn1 hqU hn2 (by rw [Nat.mul_add, hzt]; omega) (by rw [B_eq]; omega)
                have hyv := nv_setTop y (n + 2) 0 hly2
                have es : IntKind.u32.wrap ((((a ++ y ++ c).getD (lo + (v.length : Int).toNat) 0 : Nat) : Int) + IntKind.u32.wrap ((k : Nat) : Int)) = ((0 : Nat) : Int) := by
                  rw [hvl, Int.toNat_natCast, gAC _ _ _ hla (by omega), hyn]
                  rw [B_eq] at hx0
                  simp only [wU32]
                  omega
                repeat first | refine And.intro rfl ?_ | refine Or.inl (And.intro rfl ?_) | refine Or.inr (And.intro rfl ?_) | refine And.intro (fun (_ : true = true) => ?_) (fun (h : true = false) => Bool.noConfusion h) | refine And.intro (fun (h : false = true) => Bool.noConfusion h) (fun (_ : false = false) => ?_)
                refine And.intro (show 0 ≤ (v.length : Int) ∧ (v.length : Int) < ((n + 3 : Nat) : Int) by omega) ?_
                repeat first | refine And.intro rfl ?_ | refine Or.inl (And.intro rfl ?_) | refine Or.inr (And.intro rfl ?_) | refine And.intro (fun (_ : true = true) => ?_) (fun (h : true = false) => Bool.noConfusion h) | refine And.intro (fun (h : false = true) => Bool.noConfusion h) (fun (_ : false = false) => ?_)
                refine And.intro (show lo + (v.length : Int).toNat < (a ++ y ++ c).length by rw [hry]; omega) ?_
                repeat first | refine And.intro rfl ?_ | refine Or.inl (And.intro rfl ?_) | refine Or.inr (And.intro rfl ?_) | refine And.intro (fun (_ : true = true) => ?_) (fun (h : true = false) => Bool.noConfusion h) | refine And.intro (fun (h : false = true) => Bool.noConfusion h) (fun (_ : false = false) => ?_)
                refine And.intro (show 0 ≤ (v.length : Int) ∧ (v.length : Int) < ((n + 3 : Nat) : Int) by omega) ?_
                repeat first | refine And.intro rfl ?_ | refine Or.inl (And.intro rfl ?_) | refine Or.inr (And.intro rfl ?_) | refine And.intro (fun (_ : true = true) => ?_) (fun (h : true = false) => Bool.noConfusion h) | refine And.intro (fun (h : false = true) => Bool.noConfusion h) (fun (_ : false = false) => ?_)
                refine And.intro (show lo + (v.length : Int).toNat < (a ++ y ++ c).length ∧ 0 ≤ IntKind.u32.wrap (_ + _) ∧ IntKind.u32.wrap (_ + _) < 4294967296 by rw [es, hry]; omega) ?_
                refine And.intro rfl ?_
                refine And.intro (avI ?_) (And.intro rfl (congrArg (fun z => [Rw.n e z]) ?_))
                · show IntKind.u32.wrap (IntKind.u64.wrap (((q : Nat) : Int) - 1)) = _
                  rw [← hq2]
                  have : 1 ≤ q := by
                    rcases Nat.eq_zero_or_pos q with e | e
                    · subst e; simp at hn1
                    · exact e
                  rw [wU (by omega) (by omega), wU32]
                  omega
                · show (a ++ y ++ c).set (lo + (v.length : Int).toNat) (IntKind.u32.wrap (_ + _)).toNat = _
                  rw [es]
                  refine (show (a ++ y ++ c).set (lo + (v.length : Int).toNat) 0 = a ++ y.set (n + 2) 0 ++ c by rw [hvl, Int.toNat_natCast, sAC _ _ _ hla (show n + 2 < y.length by omega)]).trans ?_
                  rw [lk_of (k := n + 3) (hly.set (n + 2) (x := 0) (by decide)) (by rw [List.length_set]; exact hly2) (show nv (y.set (n + 2) 0) = nv u % nv v by rw [hyv, hN, Nat.mul_zero, Nat.add_zero])]

end Go.Gm
