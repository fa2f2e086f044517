/-
  The curves of the program, part B: At and Split. Plain theorems; no condition.
-/
import Derived.Test.YtihmifpdnipdmaaCurve
set_option linter.all false
namespace Go.Gm
open Go.Proofs

def atQ : Nat → List (Rat × Rat) → Rat → Rat × Rat
  | 0, l, _ => l.headD (0, 0)
  | k + 1, l, t => atQ k (divQ l t) t
/-- The point of a curve at t. -/
def bez (l : List (Rat × Rat)) (t : Rat) : Rat × Rat := atQ (l.length - 1) l t

theorem lvlQ_last : ∀ (k : Nat) (l : List (Rat × Rat)) (t : Rat), l.length = k + 2 → (lvlQ (k + 1) l t).getD k [] = [atQ (k + 1) l t]
  | 0, l, t, h => by
    match l, h with
    | [a, b], _ => rfl
  | k + 1, l, t, h => by
    have := lvlQ_last k (divQ l t) t (by rw [divQ_len, h]; rfl)
    show (lvlQ (k + 1) (divQ l t) t).getD k [] = _
    rw [this]
    rfl

/-- How the terms grow. -/
def gr (m : Nat) : Nat → Nat → Nat
  | 0, n => n
  | k + 1, n => gr m k (3 * n + m + 3)
theorem gr_le (m : Nat) : ∀ (k n : Nat), n ≤ gr m k n
  | 0, _ => Nat.le_refl _
  | k + 1, n => Nat.le_trans (by omega) (gr_le m k (3 * n + m + 3))
theorem divQ_sp {n m : Nat} {t : Rat} (ht : Sz m t) : ∀ {l : List (Rat × Rat)}, (∀ p, p ∈ l → Sp n p) → ∀ p, p ∈ divQ l t → Sp (3 * n + m + 3) p
  | [], _, p, hp => by cases hp
  | [_], _, p, hp => by cases hp
  | a :: b :: l, h, p, hp => by
    simp only [divQ, List.mem_cons] at hp
    rcases hp with rfl | hp
    · exact (h a (by simp)).on (h b (by simp)) ht
    · exact divQ_sp ht (l := b :: l) (fun q hq => h q (List.mem_cons_of_mem _ hq)) p hp
theorem lvlQ_sp {m : Nat} {t : Rat} (ht : Sz m t) : ∀ (k n : Nat) (l : List (Rat × Rat)), (∀ p, p ∈ l → Sp n p) → ∀ L, L ∈ lvlQ k l t → ∀ p, p ∈ L → Sp (gr m k n) p
  | 0, _, _, _, L, hL, _, _ => by cases hL
  | k + 1, n, l, h, L, hL, p, hp => by
    have hd := divQ_sp ht h
    rcases List.mem_cons.1 hL with rfl | hL
    · exact (hd p hp).mono (gr_le m k _)
    · exact lvlQ_sp ht k (3 * n + m + 3) (divQ l t) hd L hL p hp
theorem atQ_sp {m : Nat} {t : Rat} (ht : Sz m t) : ∀ (k n : Nat) (l : List (Rat × Rat)), k < l.length → (∀ p, p ∈ l → Sp n p) → Sp (gr m k n) (atQ k l t)
  | 0, n, l, hl, h => by
    match l, hl with
    | a :: l, _ => exact h a (List.mem_cons_self ..)
  | k + 1, n, l, hl, h => atQ_sp ht k (3 * n + m + 3) (divQ l t) (by rw [divQ_len]; omega) (divQ_sp ht h)
theorem bez_sp {m n : Nat} {t : Rat} (ht : Sz m t) {l : List (Rat × Rat)} (h0 : 0 < l.length) (h : ∀ p, p ∈ l → Sp n p) : Sp (gr m (l.length - 1) n) (bez l t) := atQ_sp ht _ n l (by omega) h

abbrev dp (z : Bool) (p : Rat × Rat) : List CV := dq z p.1 ++ dq z p.2

/-- Whether a list is a curve. -/
abbrev okC (c : List (List BV)) : Bool := decide (2 ≤ c.length ∧ c.length ≤ 4)

def sAt : List RV → Option (Prop × Res)
  | [.one (.sl 6 c), .agg [.b (.val (.bool s)), .b (.nat l), .b (.nat t)]] => some (ShP 300 c ∧ l.length ≤ 300 ∧ t.length ≤ 300, .t [.agg (dp (!okC c) (bez (valsOf c) (rq s l t))), .val (.int .i64 (cond (okC c) 0 1))])
  | _ => none

def TC2 : Table := [(111, sValid), (110, sPtNorm), (112, sDivide)] ++ TC1
theorem TC2_ok : TabOk TC2 := TabOk.append (TabOk.cons ok_valid (TabOk.cons ok_ptNorm (TabOk.cons ok_divide TabOk.nil))) TC1_ok

theorem sh_le {n : Nat} {c : List (List BV)} (h : ShP n c) : ∃ ps : List PR, c = ps.map ptB ∧ (∀ p, p ∈ ps → p.Le n) ∧ ps.length = c.length := ⟨ptsOf c, h.1, h.2, List.length_map _⟩

theorem allL_last (ps : List PR) (t : Rat) (h : 2 ≤ ps.length) : ((allL ps t).map fun x => x.map ptB).getD (ps.length - 1) [] = [ptB (prQ (bez (ps.map PR.v) t))] := by
  obtain ⟨k, hk⟩ : ∃ k, ps.length = k + 2 := ⟨ps.length - 2, by omega⟩
  have h1 := lvlQ_last k (ps.map PR.v) t (by rw [List.length_map]; exact hk)
  unfold allL
  rw [hk]
  show (((lvlQ (k + 1) (ps.map PR.v) t).map nrm).map fun x => x.map ptB).getD k [] = _
  have hlt : k < (lvlQ (k + 1) (ps.map PR.v) t).length := by rw [lvlQ_len]; omega
  have h2 : (lvlQ (k + 1) (ps.map PR.v) t)[k] = [atQ (k + 1) (ps.map PR.v) t] := by
    rw [← h1, List.getD_eq_getElem?_getD, List.getElem?_eq_getElem hlt]
    rfl
  simp only [List.getD_eq_getElem?_getD, List.getElem?_map, List.getElem?_eq_getElem hlt, h2]
  show [ptB (prQ (atQ (k + 1) (ps.map PR.v) t))] = [ptB (prQ (bez (ps.map PR.v) t))]
  unfold bez
  rw [List.length_map, hk]
  rfl

set_option maxHeartbeats 1000000 in
theorem ok_At : Ok1 53 sAt := by
  refine ok_of TC2_ok Try.func53 rfl (by kernel_rfl) ?_
  intro xs pre res h hp hlim
  unfold sAt at h
  split at h
  · rename_i c s l t
    cases h
    obtain ⟨hsh, hp1, hp2⟩ := hp
    cases hv : okC c with
    | false =>
      refine And.intro (Nat.le_of_ble_eq_true rfl) ?_
      repeat first | refine And.intro rfl ?_ | refine Or.inl (And.intro rfl ?_) | refine Or.inr (And.intro rfl ?_) | refine And.intro (fun (_ : true = true) => ?_) (fun (h : true = false) => Bool.noConfusion h) | refine And.intro (fun (h : false = true) => Bool.noConfusion h) (fun (_ : false = false) => ?_)
      repeat first | refine And.intro rfl ?_ | refine And.intro True.intro ?_ | refine Or.inl (And.intro rfl ?_) | refine Or.inr (And.intro rfl ?_) | refine And.intro (fun (_ : true = true) => ?_) (fun (h : true = false) => Bool.noConfusion h) | refine And.intro (fun (h : false = true) => Bool.noConfusion h) (fun (_ : false = false) => ?_)
      refine And.intro (fun hc => ?_) (fun hc => ?_)
      · repeat first | refine And.intro rfl ?_ | refine And.intro True.intro ?_ | refine Or.inl (And.intro rfl ?_) | refine Or.inr (And.intro rfl ?_) | refine And.intro (fun (_ : true = true) => ?_) (fun (h : true = false) => Bool.noConfusion h) | refine And.intro (fun (h : false = true) => Bool.noConfusion h) (fun (_ : false = false) => ?_)
        rfl
      · rw [show decide (2 ≤ c.length ∧ c.length ≤ 4) = false from hv] at hc
        cases hc
    | true =>
      have hv' := of_decide_eq_true hv
      obtain ⟨ps, rfl, hps, hpl⟩ := sh_le hsh
      rw [← hpl] at hv'
      have hlast := allL_last ps (rq s l t) hv'.1
      have hlen : ((allL ps (rq s l t)).map fun x => x.map ptB).length = ps.length := by
        simp only [allL, List.length_map, List.length_cons, lvlQ_len]
        omega
      have hw : IntKind.i64.wrap ((((allL ps (rq s l t)).map fun x => x.map ptB).length : Int) - 1) = ((ps.length - 1 : Nat) : Int) := by rw [hlen, wI (by omega) (by omega)]; omega
      rw [valsOf_B]
      refine And.intro (Nat.le_of_ble_eq_true rfl) ?_
      repeat first | refine And.intro rfl ?_ | refine Or.inl (And.intro rfl ?_) | refine Or.inr (And.intro rfl ?_) | refine And.intro (fun (_ : true = true) => ?_) (fun (h : true = false) => Bool.noConfusion h) | refine And.intro (fun (h : false = true) => Bool.noConfusion h) (fun (_ : false = false) => ?_)
      repeat first | refine And.intro rfl ?_ | refine And.intro True.intro ?_ | refine Or.inl (And.intro rfl ?_) | refine Or.inr (And.intro rfl ?_) | refine And.intro (fun (_ : true = true) => ?_) (fun (h : true = false) => Bool.noConfusion h) | refine And.intro (fun (h : false = true) => Bool.noConfusion h) (fun (_ : false = false) => ?_)
      refine And.intro (fun hc => ?_) (fun hc => ?_)
      · rw [show decide (2 ≤ (ps.map ptB).length ∧ (ps.map ptB).length ≤ 4) = true from hv] at hc
        cases hc
      · repeat first | refine And.intro rfl ?_ | refine And.intro True.intro ?_ | refine Or.inl (And.intro rfl ?_) | refine Or.inr (And.intro rfl ?_) | refine And.intro (fun (_ : true = true) => ?_) (fun (h : true = false) => Bool.noConfusion h) | refine And.intro (fun (h : false = true) => Bool.noConfusion h) (fun (_ : false = false) => ?_)
        refine And.intro (show (ShP 300 (ps.map ptB) ∧ 1 ≤ (ps.map ptB).length ∧ (ps.map ptB).length ≤ 4) ∧ l.length ≤ 300 ∧ t.length ≤ 300 from ⟨⟨hsh, by rw [List.length_map]; omega, by rw [List.length_map]; omega⟩, hp1, hp2⟩) ?_
        rw [ptsOf_B]
        repeat first | refine And.intro rfl ?_ | refine And.intro True.intro ?_ | refine Or.inl (And.intro rfl ?_) | refine Or.inr (And.intro rfl ?_) | refine And.intro (fun (_ : true = true) => ?_) (fun (h : true = false) => Bool.noConfusion h) | refine And.intro (fun (h : false = true) => Bool.noConfusion h) (fun (_ : false = false) => ?_)
        refine And.intro (show 0 ≤ IntKind.i64.wrap _ ∧ IntKind.i64.wrap _ < ((((allL ps (rq s l t)).map fun x => x.map ptB).length : Nat) : Int) by rw [hw, hlen]; omega) ?_
        rw [hw, Int.toNat_natCast, hlast]
        repeat first | refine And.intro rfl ?_ | refine And.intro True.intro ?_ | refine Or.inl (And.intro rfl ?_) | refine Or.inr (And.intro rfl ?_) | refine And.intro (fun (_ : true = true) => ?_) (fun (h : true = false) => Bool.noConfusion h) | refine And.intro (fun (h : false = true) => Bool.noConfusion h) (fun (_ : false = false) => ?_)
        refine And.intro (show 0 ≤ (0 : Int) ∧ (0 : Int) < ((1 : Nat) : Int) by decide) ?_
        repeat first | refine And.intro rfl ?_ | refine And.intro True.intro ?_ | refine Or.inl (And.intro rfl ?_) | refine Or.inr (And.intro rfl ?_) | refine And.intro (fun (_ : true = true) => ?_) (fun (h : true = false) => Bool.noConfusion h) | refine And.intro (fun (h : false = true) => Bool.noConfusion h) (fun (_ : false = false) => ?_)
        rfl
  · cases h

end Go.Gm
