/-
  The polygons of the program, part B: the searches in slices, simple, Check, area, Area2. Plain theorems; no condition.
-/
import Derived.Test.YtihmifpdnipdmaaPg
set_option linter.all false
namespace Go.Gm
open Go.Proofs

/-- The first that is so, or -1. -/
def fdx (f : Z2 → Bool) : Nat → List Z2 → Int
  | _, [] => -1
  | k, p :: ps => cond (f p) (k : Int) (fdx f (k + 1) ps)
theorem fdx_any (f : Z2 → Bool) : ∀ (ps : List Z2) (k : Nat), decide (fdx f k ps ≥ 0) = ps.any f
  | [], _ => rfl
  | p :: ps, k => by
    unfold fdx
    rw [List.any_cons]
    cases h : f p with
    | true =>
      show decide ((k : Int) ≥ 0) = true
      exact decide_eq_true (by omega)
    | false =>
      show decide (fdx f (k + 1) ps ≥ 0) = (false || ps.any f)
      rw [fdx_any f ps (k + 1), Bool.false_or]
theorem drop_at2 {ps : List Z2} {k : Nat} (hk : k < ps.length) : ps.drop k = at2 ps k :: ps.drop (k + 1) := by
  rw [List.drop_eq_getElem_cons hk]
  unfold at2
  rw [List.getD_eq_getElem?_getD, List.getElem?_eq_getElem hk]
  rfl

theorem spEqZ (x y : Int) (p : Z2) : (x == p.1 && y == p.2) = decide ((x, y) = p) := by
  by_cases h : (x, y) = p
  · rw [decide_eq_true h, ← h]; simp
  · rw [decide_eq_false h]
    cases h1 : (x == p.1 && y == p.2) with
    | false => rfl
    | true =>
      simp only [Bool.and_eq_true, beq_iff_eq] at h1
      exact absurd (Prod.ext h1.1 h1.2) h

def sIndex : List RV → Option (Prop × Res)
  | [.one (.sl 2 l), .agg [.b (.val (.int .i64 x)), .b (.val (.int .i64 y))]] => some (IsSp l ∧ l.length ≤ 100000, .r (.val (.int .i64 (fdx (fun p => x == p.1 && y == p.2) 0 (spots l)))))
  | _ => none


set_option maxHeartbeats 1000000 in
theorem ok_slIndex : Ok1 181 sIndex := by
  refine ok_of T0_ok Try.func181 rfl (by kernel_rfl) ?_
  intro xs pre res h hp hlim
  unfold sIndex at h
  split at h
  · rename_i l x y
    cases h
    obtain ⟨h1, h3⟩ := hp
    obtain ⟨ps, hps⟩ : ∃ ps, ps = spots l := ⟨_, rfl⟩
    unfold IsSp at h1
    rw [← hps] at h1 ⊢
    have e1 : l.length = ps.length := by rw [h1, List.length_map]
    rw [e1] at h3
    subst h1
    refine And.intro (Nat.le_of_ble_eq_true rfl) ?_
    repeat first | refine And.intro rfl ?_ | refine Or.inl (And.intro rfl ?_) | refine Or.inr (And.intro rfl ?_) | refine And.intro (fun (_ : true = true) => ?_) (fun (h : true = false) => Bool.noConfusion h) | refine And.intro (fun (h : false = true) => Bool.noConfusion h) (fun (_ : false = false) => ?_)
    refine Exists.intro {k : Nat // k ≤ ps.length ∧ fdx (fun p => x == p.1 && y == p.2) 0 ps = fdx (fun p => x == p.1 && y == p.2) k (ps.drop k)} (Exists.intro (fun k => ⟨[(0, .one (.sl 2 (ps.map spB))), (3, .ptr 0 0), (7, .val (.int .i64 ((ps.map spB).length : Nat))), (8, .val (.int .i64 (k.1 : Nat)))], ⟨[(25, [.val (.int .i64 x), .val (.int .i64 y)])], []⟩⟩) (Exists.intro (fun k => ps.length - k.1) (Exists.intro ⟨0, Nat.zero_le _, rfl⟩ (And.intro ?_ ?_))))
    · repeat first | exact trivial | refine And.intro rfl ?_ | refine And.intro trivial ?_ | refine And.intro (And.intro rfl trivial) ?_ | refine And.intro (And.intro rfl (And.intro rfl trivial)) ?_
    · rintro ⟨k, hk, hf⟩
      repeat first | refine And.intro rfl ?_ | refine Or.inl (And.intro rfl ?_) | refine Or.inr (And.intro rfl ?_) | refine And.intro (fun (_ : true = true) => ?_) (fun (h : true = false) => Bool.noConfusion h) | refine And.intro (fun (h : false = true) => Bool.noConfusion h) (fun (_ : false = false) => ?_)
      refine And.intro (fun hc => ?_) (fun hc => ?_)
      · have hk' : (k : Int) < (((ps.map spB).length : Nat) : Int) := of_decide_eq_true hc
        rw [List.length_map] at hk'
        have g1 : (ps.map spB).getD (k : Int).toNat [] = spB (at2 ps k) := getD_sp ps k (by omega)
        rw [drop_at2 (show k < ps.length by omega)] at hf
        repeat first | refine And.intro rfl ?_ | refine Or.inl (And.intro rfl ?_) | refine Or.inr (And.intro rfl ?_) | refine And.intro (fun (_ : true = true) => ?_) (fun (h : true = false) => Bool.noConfusion h) | refine And.intro (fun (h : false = true) => Bool.noConfusion h) (fun (_ : false = false) => ?_)
        refine And.intro (show 0 ≤ (k : Int) ∧ (k : Int) < (((ps.map spB).length : Nat) : Int) by rw [List.length_map]; omega) ?_
        rw [g1]
        generalize at2 ps k = p at hf
        repeat first | refine And.intro rfl ?_ | refine Or.inl (And.intro rfl ?_) | refine Or.inr (And.intro rfl ?_) | refine And.intro (fun (_ : true = true) => ?_) (fun (h : true = false) => Bool.noConfusion h) | refine And.intro (fun (h : false = true) => Bool.noConfusion h) (fun (_ : false = false) => ?_)
        refine And.intro (fun hd => ?_) (fun hd => ?_)
        · have hd : (x == p.1 && y == p.2) = true := hd
          repeat first | refine And.intro rfl ?_ | refine Or.inl (And.intro rfl ?_) | refine Or.inr (And.intro rfl ?_) | refine And.intro (fun (_ : true = true) => ?_) (fun (h : true = false) => Bool.noConfusion h) | refine And.intro (fun (h : false = true) => Bool.noConfusion h) (fun (_ : false = false) => ?_)
          refine resI ?_
          refine Eq.trans ?_ hf.symm
          show _ = cond (x == p.1 && y == p.2) _ _
          rw [hd]
          rfl
        · have hd : (x == p.1 && y == p.2) = false := hd
          repeat first | refine And.intro rfl ?_ | refine Or.inl (And.intro rfl ?_) | refine Or.inr (And.intro rfl ?_) | refine And.intro (fun (_ : true = true) => ?_) (fun (h : true = false) => Bool.noConfusion h) | refine And.intro (fun (h : false = true) => Bool.noConfusion h) (fun (_ : false = false) => ?_)
          refine Exists.intro ⟨k + 1, by omega, ?_⟩ (And.intro (show ps.length - (k + 1) < ps.length - k by omega) ?_)
          · rw [hf]
            show cond (x == p.1 && y == p.2) _ _ = _
            rw [hd]
            rfl
          · repeat first | exact trivial | refine And.intro rfl ?_ | refine And.intro trivial ?_ | refine And.intro (And.intro rfl trivial) ?_ | refine And.intro (And.intro rfl (And.intro rfl trivial)) ?_
            exact And.intro (avI (show IntKind.i64.wrap ((k : Int) + 1) = ((k + 1 : Nat) : Int) by rw [wI (by omega) (by omega)]; omega)) trivial
      · have hk' : ¬ (k : Int) < (((ps.map spB).length : Nat) : Int) := of_decide_eq_false hc
        rw [List.length_map] at hk'
        repeat first | refine And.intro rfl ?_ | refine Or.inl (And.intro rfl ?_) | refine Or.inr (And.intro rfl ?_) | refine And.intro (fun (_ : true = true) => ?_) (fun (h : true = false) => Bool.noConfusion h) | refine And.intro (fun (h : false = true) => Bool.noConfusion h) (fun (_ : false = false) => ?_)
        refine resI ?_
        refine Eq.trans ?_ hf.symm
        rw [List.drop_of_length_le (by omega)]
        rfl
  · cases h

def TG2 : Table := [(181, sIndex)]
theorem TG2_ok : TabOk TG2 := TabOk.cons ok_slIndex TabOk.nil

def sContains : List RV → Option (Prop × Res)
  | [.one (.sl 2 l), .agg [.b (.val (.int .i64 x)), .b (.val (.int .i64 y))]] => some (IsSp l ∧ l.length ≤ 100000, .r (.val (.bool ((spots l).any fun p => x == p.1 && y == p.2))))
  | _ => none

theorem ok_slContains : Ok1 155 sContains := by
  refine ok_of TG2_ok Try.func155 rfl (by kernel_rfl) ?_
  intro xs pre res h hp hlim
  unfold sContains at h
  split at h
  · rename_i l x y
    cases h
    refine And.intro (Nat.le_of_ble_eq_true rfl) ?_
    repeat first | refine And.intro rfl ?_ | refine Or.inl (And.intro rfl ?_) | refine Or.inr (And.intro rfl ?_) | refine And.intro (fun (_ : true = true) => ?_) (fun (h : true = false) => Bool.noConfusion h) | refine And.intro (fun (h : false = true) => Bool.noConfusion h) (fun (_ : false = false) => ?_)
    refine And.intro hp ?_
    repeat first | refine And.intro rfl ?_ | refine Or.inl (And.intro rfl ?_) | refine Or.inr (And.intro rfl ?_) | refine And.intro (fun (_ : true = true) => ?_) (fun (h : true = false) => Bool.noConfusion h) | refine And.intro (fun (h : false = true) => Bool.noConfusion h) (fun (_ : false = false) => ?_)
    exact resB (fdx_any _ _ 0)
  · cases h

def sIndexFunc : List RV → Option (Prop × Res)
  | [.one (.sl 2 l), .one (.b (.val (.func (.func g) ⟨[]⟩ ⟨[]⟩)))] => cond (Nat.beq g 118) (some (IsSp l ∧ l.length ≤ 100000, .r (.val (.int .i64 (fdx (fun p => !decide (Gr p)) 0 (spots l)))))) none
  | _ => none

def TG3 : Table := [(118, sOutside)]
theorem TG3_ok : TabOk TG3 := TabOk.cons ok_outside TabOk.nil

attribute [local irreducible] Gr

set_option maxHeartbeats 1000000 in
theorem ok_slIndexFunc : Ok1 154 sIndexFunc := by
  refine ok_of TG3_ok Try.func154 rfl (by kernel_rfl) ?_
  intro xs pre res h hp hlim
  unfold sIndexFunc at h
  split at h
  · rename_i l g
    cases hg : Nat.beq g 118 with
    | false => rw [hg] at h; cases h
    | true =>
    have hg' := Nat.eq_of_beq_eq_true hg
    subst hg'
    cases h
    obtain ⟨h1, h3⟩ := hp
    obtain ⟨ps, hps⟩ : ∃ ps, ps = spots l := ⟨_, rfl⟩
    unfold IsSp at h1
    rw [← hps] at h1 ⊢
    have e1 : l.length = ps.length := by rw [h1, List.length_map]
    rw [e1] at h3
    subst h1
    refine And.intro (Nat.le_of_ble_eq_true rfl) ?_
    repeat first | refine And.intro rfl ?_ | refine Or.inl (And.intro rfl ?_) | refine Or.inr (And.intro rfl ?_) | refine And.intro (fun (_ : true = true) => ?_) (fun (h : true = false) => Bool.noConfusion h) | refine And.intro (fun (h : false = true) => Bool.noConfusion h) (fun (_ : false = false) => ?_)
    refine Exists.intro {k : Nat // k ≤ ps.length ∧ fdx (fun p => !decide (Gr p)) 0 ps = fdx (fun p => !decide (Gr p)) k (ps.drop k)} (Exists.intro (fun k => ⟨[(0, .one (.sl 2 (ps.map spB))), (1, .val (.func (.func 118) #[] #[])), (7, .val (.int .i64 ((ps.map spB).length : Nat))), (8, .val (.int .i64 (k.1 : Nat)))], ⟨[], []⟩⟩) (Exists.intro (fun k => ps.length - k.1) (Exists.intro ⟨0, Nat.zero_le _, rfl⟩ (And.intro ?_ ?_))))
    · repeat first | exact trivial | refine And.intro rfl ?_ | refine And.intro trivial ?_ | refine And.intro (And.intro rfl trivial) ?_ | refine And.intro (And.intro rfl (And.intro rfl trivial)) ?_
    · rintro ⟨k, hk, hf⟩
      repeat first | refine And.intro rfl ?_ | refine Or.inl (And.intro rfl ?_) | refine Or.inr (And.intro rfl ?_) | refine And.intro (fun (_ : true = true) => ?_) (fun (h : true = false) => Bool.noConfusion h) | refine And.intro (fun (h : false = true) => Bool.noConfusion h) (fun (_ : false = false) => ?_)
      refine And.intro (fun hc => ?_) (fun hc => ?_)
      · have hk' : (k : Int) < (((ps.map spB).length : Nat) : Int) := of_decide_eq_true hc
        rw [List.length_map] at hk'
        have g1 : (ps.map spB).getD (k : Int).toNat [] = spB (at2 ps k) := getD_sp ps k (by omega)
        rw [drop_at2 (show k < ps.length by omega)] at hf
        repeat first | refine And.intro rfl ?_ | refine Or.inl (And.intro rfl ?_) | refine Or.inr (And.intro rfl ?_) | refine And.intro (fun (_ : true = true) => ?_) (fun (h : true = false) => Bool.noConfusion h) | refine And.intro (fun (h : false = true) => Bool.noConfusion h) (fun (_ : false = false) => ?_)
        refine And.intro (show 0 ≤ (k : Int) ∧ (k : Int) < (((ps.map spB).length : Nat) : Int) by rw [List.length_map]; omega) ?_
        rw [g1]
        generalize at2 ps k = p at hf
        obtain ⟨px, py⟩ := p
        repeat first | refine And.intro rfl ?_ | refine And.intro True.intro ?_ | refine Or.inl (And.intro rfl ?_) | refine Or.inr (And.intro rfl ?_) | refine And.intro (fun (_ : true = true) => ?_) (fun (h : true = false) => Bool.noConfusion h) | refine And.intro (fun (h : false = true) => Bool.noConfusion h) (fun (_ : false = false) => ?_)
        refine And.intro (fun hd => ?_) (fun hd => ?_)
        · have hd : (!decide (Gr (px, py))) = true := hd
          repeat first | refine And.intro rfl ?_ | refine Or.inl (And.intro rfl ?_) | refine Or.inr (And.intro rfl ?_) | refine And.intro (fun (_ : true = true) => ?_) (fun (h : true = false) => Bool.noConfusion h) | refine And.intro (fun (h : false = true) => Bool.noConfusion h) (fun (_ : false = false) => ?_)
          refine resI ?_
          refine Eq.trans ?_ hf.symm
          show _ = cond (!decide (Gr (px, py))) _ _
          rw [hd]
          rfl
        · have hd : (!decide (Gr (px, py))) = false := hd
          repeat first | refine And.intro rfl ?_ | refine Or.inl (And.intro rfl ?_) | refine Or.inr (And.intro rfl ?_) | refine And.intro (fun (_ : true = true) => ?_) (fun (h : true = false) => Bool.noConfusion h) | refine And.intro (fun (h : false = true) => Bool.noConfusion h) (fun (_ : false = false) => ?_)
          refine Exists.intro ⟨k + 1, by omega, ?_⟩ (And.intro (show ps.length - (k + 1) < ps.length - k by omega) ?_)
          · rw [hf]
            show cond (!decide (Gr (px, py))) _ _ = _
            rw [hd]
            rfl
          · repeat first | exact trivial | refine And.intro rfl ?_ | refine And.intro trivial ?_ | refine And.intro (And.intro rfl trivial) ?_ | refine And.intro (And.intro rfl (And.intro rfl trivial)) ?_
            exact And.intro (avI (show IntKind.i64.wrap ((k : Int) + 1) = ((k + 1 : Nat) : Int) by rw [wI (by omega) (by omega)]; omega)) trivial
      · have hk' : ¬ (k : Int) < (((ps.map spB).length : Nat) : Int) := of_decide_eq_false hc
        rw [List.length_map] at hk'
        repeat first | refine And.intro rfl ?_ | refine Or.inl (And.intro rfl ?_) | refine Or.inr (And.intro rfl ?_) | refine And.intro (fun (_ : true = true) => ?_) (fun (h : true = false) => Bool.noConfusion h) | refine And.intro (fun (h : false = true) => Bool.noConfusion h) (fun (_ : false = false) => ?_)
        refine resI ?_
        refine Eq.trans ?_ hf.symm
        rw [List.drop_of_length_le (by omega)]
        rfl
  · cases h

def TG4 : Table := [(154, sIndexFunc)]
theorem TG4_ok : TabOk TG4 := TabOk.cons ok_slIndexFunc TabOk.nil

def sContainsFunc : List RV → Option (Prop × Res)
  | [.one (.sl 2 l), .one (.b (.val (.func (.func g) ⟨[]⟩ ⟨[]⟩)))] => cond (Nat.beq g 118) (some (IsSp l ∧ l.length ≤ 100000, .r (.val (.bool ((spots l).any fun p => !decide (Gr p)))))) none
  | _ => none

theorem ok_slContainsFunc : Ok1 117 sContainsFunc := by
  refine ok_of TG4_ok Try.func117 rfl (by kernel_rfl) ?_
  intro xs pre res h hp hlim
  unfold sContainsFunc at h
  split at h
  · rename_i l g
    cases hg : Nat.beq g 118 with
    | false => rw [hg] at h; cases h
    | true =>
    have hg' := Nat.eq_of_beq_eq_true hg
    subst hg'
    cases h
    refine And.intro (Nat.le_of_ble_eq_true rfl) ?_
    repeat first | refine And.intro rfl ?_ | refine Or.inl (And.intro rfl ?_) | refine Or.inr (And.intro rfl ?_) | refine And.intro (fun (_ : true = true) => ?_) (fun (h : true = false) => Bool.noConfusion h) | refine And.intro (fun (h : false = true) => Bool.noConfusion h) (fun (_ : false = false) => ?_)
    refine And.intro hp ?_
    repeat first | refine And.intro rfl ?_ | refine Or.inl (And.intro rfl ?_) | refine Or.inr (And.intro rfl ?_) | refine And.intro (fun (_ : true = true) => ?_) (fun (h : true = false) => Bool.noConfusion h) | refine And.intro (fun (h : false = true) => Bool.noConfusion h) (fun (_ : false = false) => ?_)
    exact resB (fdx_any _ _ 0)
  · cases h

/-! The area. -/

theorem xZ_bound {a b : Z2} (ha : Gr a) (hb : Gr b) : -2199023255552 ≤ xZ a b ∧ xZ a b ≤ 2199023255552 := by
  unfold Gr at ha hb
  have key : ∀ {u v : Int}, -1048576 ≤ u ∧ u ≤ 1048576 → -1048576 ≤ v ∧ v ≤ 1048576 → -1099511627776 ≤ u * v ∧ u * v ≤ 1099511627776 := by
    intro u v hu hv
    have h : (u * v).natAbs ≤ 1048576 * 1048576 := by
      rw [Int.natAbs_mul]
      exact Nat.mul_le_mul (by omega) (by omega)
    omega
  have m1 := key ha.1 hb.2
  have m2 := key ha.2 hb.1
  unfold xZ
  omega
theorem sumN_bound {f : Nat → Int} {m : Nat} : ∀ {n : Nat}, n ≤ m → (∀ i, i < m → -2199023255552 ≤ f i ∧ f i ≤ 2199023255552) → -(2199023255552 * (n : Int)) ≤ sumN f n ∧ sumN f n ≤ 2199023255552 * (n : Int)
  | 0, _, _ => by simp [sumN]
  | n + 1, hn, h => by
    have ih := sumN_bound (n := n) (by omega) h
    have := h n (by omega)
    unfold sumN
    omega

theorem getD_memZ {α : Type} (l : List α) (i : Nat) (d : α) (hi : i < l.length) : l.getD i d ∈ l := by
  rw [List.getD_eq_getElem?_getD, List.getElem?_eq_getElem hi]
  exact List.getElem_mem hi
theorem at2_mem {ps : List Z2} {k : Nat} (hk : k < ps.length) : at2 ps k ∈ ps := getD_memZ ps k (0, 0) hk

def sArea : List RV → Option (Prop × Res)
  | [.one (.sl 2 l)] => some ((IsSp l ∧ l.length ≤ 40) ∧ ∀ p, p ∈ spots l → Gr p, .r (.val (.int .i64 (areaZ (spots l)))))
  | _ => none

theorem tmod_nat (a n : Nat) : (a : Int).tmod (n : Int) = ((a % n : Nat) : Int) := rfl


set_option maxHeartbeats 1000000 in
theorem ok_area : Ok1 120 sArea := by
  refine ok_of T0_ok Try.func120 rfl (by kernel_rfl) ?_
  intro xs pre res h hp hlim
  unfold sArea at h
  split at h
  · rename_i l
    cases h
    obtain ⟨⟨h1, h3⟩, hG⟩ := hp
    obtain ⟨ps, hps⟩ : ∃ ps, ps = spots l := ⟨_, rfl⟩
    unfold IsSp at h1
    rw [← hps] at h1 hG ⊢
    have e1 : l.length = ps.length := by rw [h1, List.length_map]
    rw [e1] at h3
    subst h1
    obtain ⟨F, hF⟩ : ∃ F : Nat → Int, F = fun i => xZ (at2 ps i) (at2 ps (nx ps.length i)) := ⟨_, rfl⟩
    have hb : ∀ i, i < ps.length → -2199023255552 ≤ F i ∧ F i ≤ 2199023255552 := fun i hi => by rw [hF]; exact xZ_bound (hG _ (at2_mem hi)) (hG _ (at2_mem (nx_lt hi)))
    have eA : areaZ ps = sumN F ps.length := by rw [hF]; rfl
    rw [eA]
    refine And.intro (Nat.le_of_ble_eq_true rfl) ?_
    repeat first | refine And.intro rfl ?_ | refine Or.inl (And.intro rfl ?_) | refine Or.inr (And.intro rfl ?_) | refine And.intro (fun (_ : true = true) => ?_) (fun (h : true = false) => Bool.noConfusion h) | refine And.intro (fun (h : false = true) => Bool.noConfusion h) (fun (_ : false = false) => ?_)
    refine Exists.intro {k : Nat // k ≤ ps.length} (Exists.intro (fun k => ⟨[(0, .one (.sl 2 (ps.map spB))), (3, .val (.int .i64 (sumN F k.1))), (7, .one (.sl 2 (ps.map spB))), (8, .val (.int .i64 ((ps.map spB).length : Nat))), (9, .val (.int .i64 (k.1 : Nat)))], ⟨[], []⟩⟩) (Exists.intro (fun k => ps.length - k.1) (Exists.intro ⟨0, Nat.zero_le _⟩ (And.intro ?_ ?_))))
    · repeat first | exact trivial | refine And.intro rfl ?_ | refine And.intro trivial ?_ | refine And.intro (And.intro rfl trivial) ?_ | refine And.intro (And.intro rfl (And.intro rfl trivial)) ?_
    · rintro ⟨k, hk⟩
      repeat first | refine And.intro rfl ?_ | refine Or.inl (And.intro rfl ?_) | refine Or.inr (And.intro rfl ?_) | refine And.intro (fun (_ : true = true) => ?_) (fun (h : true = false) => Bool.noConfusion h) | refine And.intro (fun (h : false = true) => Bool.noConfusion h) (fun (_ : false = false) => ?_)
      refine And.intro (fun hc => ?_) (fun hc => ?_)
      · have hk' : (k : Int) < (((ps.map spB).length : Nat) : Int) := of_decide_eq_true hc
        rw [List.length_map] at hk'
        have g1 : (ps.map spB).getD (k : Int).toNat [] = spB (at2 ps k) := getD_sp ps k (by omega)
        have hw1 : IntKind.i64.wrap ((k : Int) + 1) = ((k + 1 : Nat) : Int) := by rw [wI (by omega) (by omega)]; omega
        have hm1 : (IntKind.i64.wrap ((k : Int) + 1)).tmod ((ps.length : Nat) : Int) = ((nx ps.length k : Nat) : Int) := by rw [hw1, tmod_nat, nx_mod (by omega)]
        have hn1 := nx_lt (show k < ps.length by omega)
        have hg1 : (ps.map spB).getD ((nx ps.length k : Nat) : Int).toNat [] = spB (at2 ps (nx ps.length k)) := getD_sp ps _ hn1
        have hFk := hb k (by omega)
        have hbs := sumN_bound (f := F) (m := ps.length) (n := k) hk hb
        have eF : F k = xZ (at2 ps k) (at2 ps (nx ps.length k)) := by rw [hF]
        have ga := hG _ (at2_mem (show k < ps.length by omega))
        have gb := hG _ (at2_mem hn1)
        repeat first | refine And.intro rfl ?_ | refine Or.inl (And.intro rfl ?_) | refine Or.inr (And.intro rfl ?_) | refine And.intro (fun (_ : true = true) => ?_) (fun (h : true = false) => Bool.noConfusion h) | refine And.intro (fun (h : false = true) => Bool.noConfusion h) (fun (_ : false = false) => ?_)
        refine And.intro (show 0 ≤ (k : Int) ∧ (k : Int) < (((ps.map spB).length : Nat) : Int) by rw [List.length_map]; omega) ?_
        rw [g1]
        repeat first | refine And.intro rfl ?_ | refine Or.inl (And.intro rfl ?_) | refine Or.inr (And.intro rfl ?_) | refine And.intro (fun (_ : true = true) => ?_) (fun (h : true = false) => Bool.noConfusion h) | refine And.intro (fun (h : false = true) => Bool.noConfusion h) (fun (_ : false = false) => ?_)
        refine And.intro (show (((ps.map spB).length : Nat) : Int) ≠ 0 by rw [List.length_map]; omega) ?_
        rw [List.length_map, hm1]
        repeat first | refine And.intro rfl ?_ | refine Or.inl (And.intro rfl ?_) | refine Or.inr (And.intro rfl ?_) | refine And.intro (fun (_ : true = true) => ?_) (fun (h : true = false) => Bool.noConfusion h) | refine And.intro (fun (h : false = true) => Bool.noConfusion h) (fun (_ : false = false) => ?_)
        refine And.intro (show 0 ≤ ((nx ps.length k : Nat) : Int) ∧ ((nx ps.length k : Nat) : Int) < (((ps.map spB).length : Nat) : Int) by rw [List.length_map]; omega) ?_
        rw [hg1]
        generalize at2 ps k = a at eF ga
        generalize at2 ps (nx ps.length k) = b at eF gb
        obtain ⟨ax, ay⟩ := a
        obtain ⟨bx, by_⟩ := b
        repeat first | refine And.intro rfl ?_ | refine Or.inl (And.intro rfl ?_) | refine Or.inr (And.intro rfl ?_) | refine And.intro (fun (_ : true = true) => ?_) (fun (h : true = false) => Bool.noConfusion h) | refine And.intro (fun (h : false = true) => Bool.noConfusion h) (fun (_ : false = false) => ?_)
        refine Exists.intro ⟨k + 1, by omega⟩ (And.intro (show ps.length - (k + 1) < ps.length - k by omega) ?_)
        repeat first | exact trivial | refine And.intro rfl ?_ | refine And.intro trivial ?_ | refine And.intro (And.intro rfl trivial) ?_ | refine And.intro (And.intro rfl (And.intro rfl trivial)) ?_
        refine And.intro (avI ?_) ?_
        · have e : sumN F (k + 1) = sumN F k + xZ (ax, ay) (bx, by_) := by rw [← eF]; rfl
          rw [e]
          unfold Gr at ga gb
          rw [eF] at hFk
          generalize sumN F k = sm at hbs
          show IntKind.i64.wrap (sm + IntKind.i64.wrap (IntKind.i64.wrap (ax * by_) - IntKind.i64.wrap (ay * bx))) = sm + (ax * by_ - ay * bx)
          have m1 := mulB (u := ax) (v := by_) (by omega) (by omega)
          have m2 := mulB (u := ay) (v := bx) (by omega) (by omega)
          have hFk : -2199023255552 ≤ ax * by_ - ay * bx ∧ ax * by_ - ay * bx ≤ 2199023255552 := hFk
          generalize ax * by_ = m at m1 hFk
          generalize ay * bx = n at m2 hFk
          rw [wI (x := m) (by omega) (by omega), wI (x := n) (by omega) (by omega), wI (x := m - n) (by omega) (by omega), wI (by omega) (by omega)]
        · repeat first | exact trivial | refine And.intro rfl ?_ | refine And.intro trivial ?_ | refine And.intro (And.intro rfl trivial) ?_ | refine And.intro (And.intro rfl (And.intro rfl trivial)) ?_
          exact And.intro (avI hw1) trivial
      · have hk' : ¬ (k : Int) < (((ps.map spB).length : Nat) : Int) := of_decide_eq_false hc
        rw [List.length_map] at hk'
        repeat first | refine And.intro rfl ?_ | refine Or.inl (And.intro rfl ?_) | refine Or.inr (And.intro rfl ?_) | refine And.intro (fun (_ : true = true) => ?_) (fun (h : true = false) => Bool.noConfusion h) | refine And.intro (fun (h : false = true) => Bool.noConfusion h) (fun (_ : false = false) => ?_)
        refine resI ?_
        show sumN F k = sumN F ps.length
        rw [show k = ps.length by omega]
  · cases h

end Go.Gm
