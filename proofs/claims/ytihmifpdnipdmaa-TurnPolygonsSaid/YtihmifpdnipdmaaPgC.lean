/-
  The polygons of the program, part C: simple, Check, Area2. Plain theorems; no condition.
-/
import Derived.Test.YtihmifpdnipdmaaPgB
set_option linter.all false
namespace Go.Gm
open Go.Proofs

/-- Whether a polygon is simple. -/
noncomputable def simB (p : List Z2) : Bool := @decide (SimP p) (Classical.propDecidable _)
theorem simB_iff {p : List Z2} : simB p = true ↔ SimP p := by
  unfold simB
  exact @decide_eq_true_iff _ (Classical.propDecidable _)
theorem simB_no {p : List Z2} (h : ¬ SimP p) : false = simB p := by
  cases hb : simB p with
  | false => rfl
  | true => exact absurd (simB_iff.1 hb) h
theorem simB_yes {p : List Z2} (h : SimP p) : true = simB p := (simB_iff.2 h).symm

/-- What holds of the corners ahead of i. -/
def SimA (ps : List Z2) (i : Nat) : Prop := ∀ i', i' < i → ∀ j, j < i' → at2 ps j ≠ at2 ps i'
def SimM (ps : List Z2) (i k : Nat) : Prop := ∀ k', i + 2 ≤ k' → k' < k → k' < ps.length → nx ps.length k' ≠ i → ¬ meetZ (at2 ps i) (at2 ps (nx ps.length i)) (at2 ps k') (at2 ps (nx ps.length k'))
def SimF (ps : List Z2) (i : Nat) : Prop := ∀ i', i' < i → ¬ foldZ (at2 ps i') (at2 ps (nx ps.length i')) (at2 ps (nx ps.length (nx ps.length i'))) ∧ SimM ps i' ps.length

theorem sim_of {ps : List Z2} (h1 : SimA ps ps.length) (h2 : SimF ps ps.length) : SimP ps := by
  refine ⟨fun i j hi hj hne => ?_, fun i hi => (h2 i hi).1, fun i k hi hk a1 a2 a3 => ?_⟩
  · rcases Nat.lt_or_ge i j with h | h
    · exact h1 j hj i h
    · exact fun e => h1 i hi j (by omega) e.symm
  · rcases Nat.lt_or_ge i k with h | h
    · refine (h2 i hi).2 k ?_ hk hk a3
      unfold nx at a2
      split at a2 <;> omega
    · intro hm
      refine (h2 k hk).2 i ?_ hi hi a2 (meetZ_swap.1 hm)
      unfold nx at a3
      split at a3 <;> omega
theorem sim_a {ps : List Z2} {i j : Nat} (hi : i < ps.length) (hj : j < i) (e : at2 ps j = at2 ps i) : ¬ SimP ps := fun h => h.1 j i (by omega) hi (by omega) e
theorem sim_f {ps : List Z2} {i : Nat} (hi : i < ps.length) (e : foldZ (at2 ps i) (at2 ps (nx ps.length i)) (at2 ps (nx ps.length (nx ps.length i)))) : ¬ SimP ps := fun h => h.2.1 i hi e
theorem sim_m {ps : List Z2} {i k : Nat} (hi : i + 2 ≤ k) (hk : k < ps.length) (hn : nx ps.length k ≠ i) (e : meetZ (at2 ps i) (at2 ps (nx ps.length i)) (at2 ps k) (at2 ps (nx ps.length k))) : ¬ SimP ps := fun h =>
  h.2.2 i k (by omega) hk (by omega) (by unfold nx; split <;> omega) hn e
theorem SimM.last {ps : List Z2} {i k : Nat} (h : SimM ps i k) (hi : i + 2 ≤ k) (hk : k < ps.length) (hn : nx ps.length k = i) : SimM ps i ps.length := fun k' h1 h2 h3 h4 => by
  rcases Nat.lt_or_ge k' k with g | g
  · exact h k' h1 g h3 h4
  · rcases Nat.lt_or_eq_of_le g with g | g
    · exfalso
      unfold nx at hn
      split at hn <;> omega
    · subst g; exact absurd hn h4
theorem SimM.stop {ps : List Z2} {i k : Nat} (h : SimM ps i k) (hk : ¬ k < ps.length) : SimM ps i ps.length := fun k' h1 h2 h3 h4 => h k' h1 (by omega) h3 h4
theorem SimM.next {ps : List Z2} {i k : Nat} (h : SimM ps i k) (hm : ¬ meetZ (at2 ps i) (at2 ps (nx ps.length i)) (at2 ps k) (at2 ps (nx ps.length k))) : SimM ps i (k + 1) := fun k' h1 h2 h3 h4 => by
  rcases Nat.lt_or_ge k' k with g | g
  · exact h k' h1 g h3 h4
  · have : k' = k := by omega
    subst this
    exact hm

def TG5 : Table := [(155, sContains), (156, sPgFolded), (157, sPgMeet)]
theorem TG5_ok : TabOk TG5 := TabOk.cons ok_slContains (TabOk.cons ok_pgFolded (TabOk.cons ok_pgMeet TabOk.nil))

noncomputable def sSimple : List RV → Option (Prop × Res)
  | [.one (.sl 2 l)] => some ((IsSp l ∧ l.length ≤ 40) ∧ (∀ p, p ∈ spots l → Gr p) ∧ 0 < l.length, .r (.val (.bool (simB (spots l)))))
  | _ => none

attribute [local irreducible] Gr foldZ meetZ

set_option maxRecDepth 20000 in
set_option maxHeartbeats 4000000 in
theorem ok_simple : Ok1 119 sSimple := by
  refine ok_of TG5_ok Try.func119 rfl (by kernel_rfl) ?_
  intro xs pre res h hp hlim
  unfold sSimple at h
  split at h
  · rename_i l
    cases h
    obtain ⟨⟨h1, h3⟩, hG, hpos⟩ := hp
    obtain ⟨ps, hps⟩ : ∃ ps, ps = spots l := ⟨_, rfl⟩
    unfold IsSp at h1
    rw [← hps] at h1 hG ⊢
    have e1 : l.length = ps.length := by rw [h1, List.length_map]
    rw [e1] at h3 hpos
    subst h1
    have hL : (((ps.map spB).length : Nat) : Int) = ((ps.length : Nat) : Int) := by rw [List.length_map]
    have hgr : ∀ {k}, k < ps.length → Gr ((at2 ps k).1, (at2 ps k).2) := fun {k} hk => hG _ (at2_mem hk)
    refine And.intro (Nat.le_of_ble_eq_true rfl) ?_
    repeat first | refine And.intro rfl ?_ | refine Or.inl (And.intro rfl ?_) | refine Or.inr (And.intro rfl ?_) | refine And.intro (fun (_ : true = true) => ?_) (fun (h : true = false) => Bool.noConfusion h) | refine And.intro (fun (h : false = true) => Bool.noConfusion h) (fun (_ : false = false) => ?_)
    refine Exists.intro {k : Nat // k ≤ ps.length ∧ SimA ps k} (Exists.intro (fun k => ⟨[(0, .one (.sl 2 (ps.map spB))), (3, .val (.int .i64 (ps.length : Nat))), (12, .one (.sl 2 (ps.map spB))), (13, .val (.int .i64 (ps.length : Nat))), (14, .val (.int .i64 (k.1 : Nat)))], ⟨[], []⟩⟩) (Exists.intro (fun k => ps.length - k.1) (Exists.intro ⟨0, Nat.zero_le _, fun i hi => absurd hi (Nat.not_lt_zero _)⟩ (And.intro ?_ ?_))))
    · repeat first | exact trivial | refine And.intro rfl ?_ | refine And.intro trivial ?_ | refine And.intro (And.intro rfl trivial) ?_ | refine And.intro (And.intro rfl (And.intro rfl trivial)) ?_
      refine And.intro (avI hL) ?_
      repeat first | exact trivial | refine And.intro rfl ?_ | refine And.intro trivial ?_ | refine And.intro (And.intro rfl trivial) ?_ | refine And.intro (And.intro rfl (And.intro rfl trivial)) ?_
      refine And.intro (avI hL) ?_
      repeat first | exact trivial | refine And.intro rfl ?_ | refine And.intro trivial ?_ | refine And.intro (And.intro rfl trivial) ?_ | refine And.intro (And.intro rfl (And.intro rfl trivial)) ?_
    · rintro ⟨k, hk, hA⟩
      repeat first | refine And.intro rfl ?_ | refine Or.inl (And.intro rfl ?_) | refine Or.inr (And.intro rfl ?_) | refine And.intro (fun (_ : true = true) => ?_) (fun (h : true = false) => Bool.noConfusion h) | refine And.intro (fun (h : false = true) => Bool.noConfusion h) (fun (_ : false = false) => ?_)
      refine And.intro (fun hc => ?_) (fun hc => ?_)
      · have hk' : (k : Int) < ((ps.length : Nat) : Int) := of_decide_eq_true hc
        have g1 : (ps.map spB).getD (k : Int).toNat [] = spB (at2 ps k) := getD_sp ps k (by omega)
        have ecut : cutL (ps.map spB) none (some (k : Int)) = (ps.take k).map spB := by
          show (ps.map spB).take (k : Int).toNat = _
          rw [Int.toNat_natCast, List.map_take]
        repeat first | refine And.intro rfl ?_ | refine Or.inl (And.intro rfl ?_) | refine Or.inr (And.intro rfl ?_) | refine And.intro (fun (_ : true = true) => ?_) (fun (h : true = false) => Bool.noConfusion h) | refine And.intro (fun (h : false = true) => Bool.noConfusion h) (fun (_ : false = false) => ?_)
        refine And.intro (show 0 ≤ (k : Int) ∧ (k : Int) < (((ps.map spB).length : Nat) : Int) by rw [List.length_map]; omega) ?_
        rw [g1]
        repeat first | refine And.intro rfl ?_ | refine Or.inl (And.intro rfl ?_) | refine Or.inr (And.intro rfl ?_) | refine And.intro (fun (_ : true = true) => ?_) (fun (h : true = false) => Bool.noConfusion h) | refine And.intro (fun (h : false = true) => Bool.noConfusion h) (fun (_ : false = false) => ?_)
        refine And.intro (show 0 ≤ (k : Int) ∧ (k : Int) ≤ (((ps.map spB).length : Nat) : Int) by rw [List.length_map]; omega) ?_
        rw [ecut]
        repeat first | refine And.intro rfl ?_ | refine Or.inl (And.intro rfl ?_) | refine Or.inr (And.intro rfl ?_) | refine And.intro (fun (_ : true = true) => ?_) (fun (h : true = false) => Bool.noConfusion h) | refine And.intro (fun (h : false = true) => Bool.noConfusion h) (fun (_ : false = false) => ?_)
        refine And.intro (And.intro (isSp_map _) (show ((ps.take k).map spB).length ≤ 100000 by rw [List.length_map, List.length_take]; omega)) ?_
        rw [spots_map]
        repeat first | refine And.intro rfl ?_ | refine Or.inl (And.intro rfl ?_) | refine Or.inr (And.intro rfl ?_) | refine And.intro (fun (_ : true = true) => ?_) (fun (h : true = false) => Bool.noConfusion h) | refine And.intro (fun (h : false = true) => Bool.noConfusion h) (fun (_ : false = false) => ?_)
        refine And.intro (fun hd => ?_) (fun hd => ?_)
        · have hd : ((ps.take k).any fun p => (at2 ps k).1 == p.1 && (at2 ps k).2 == p.2) = true := hd
          repeat first | refine And.intro rfl ?_ | refine Or.inl (And.intro rfl ?_) | refine Or.inr (And.intro rfl ?_) | refine And.intro (fun (_ : true = true) => ?_) (fun (h : true = false) => Bool.noConfusion h) | refine And.intro (fun (h : false = true) => Bool.noConfusion h) (fun (_ : false = false) => ?_)
          refine resB (simB_no ?_)
          rw [List.any_eq_true] at hd
          obtain ⟨p, hp1, hp2⟩ := hd
          rw [spEqZ] at hp2
          have hp2 : at2 ps k = p := of_decide_eq_true hp2
          obtain ⟨j, hj, hjp⟩ := List.getElem_of_mem hp1
          rw [List.length_take] at hj
          have hjp' : at2 ps j = p := by
            rw [← hjp, List.getElem_take]
            show ps.getD j (0, 0) = _
            rw [List.getD_eq_getElem?_getD, List.getElem?_eq_getElem (by omega)]
            rfl
          exact sim_a (i := k) (j := j) (by omega) (by omega) (by rw [hjp', hp2])
        · have hd : ((ps.take k).any fun p => (at2 ps k).1 == p.1 && (at2 ps k).2 == p.2) = false := hd
          repeat first | refine And.intro rfl ?_ | refine Or.inl (And.intro rfl ?_) | refine Or.inr (And.intro rfl ?_) | refine And.intro (fun (_ : true = true) => ?_) (fun (h : true = false) => Bool.noConfusion h) | refine And.intro (fun (h : false = true) => Bool.noConfusion h) (fun (_ : false = false) => ?_)
          refine Exists.intro ⟨k + 1, by omega, ?_⟩ (And.intro (show ps.length - (k + 1) < ps.length - k by omega) ?_)
          · intro i hi j hj
            rcases Nat.lt_or_ge i k with g | g
            · exact hA i g j hj
            · have : i = k := by omega
              subst this
              intro e
              rw [List.any_eq_false] at hd
              have hm : at2 ps j ∈ ps.take i := by
                have e2 : at2 ps j = (ps.take i).getD j (0, 0) := by
                  show ps.getD j (0, 0) = _
                  rw [List.getD_eq_getElem?_getD, List.getD_eq_getElem?_getD, List.getElem?_take, if_pos hj]
                rw [e2]
                exact getD_memZ _ _ _ (by rw [List.length_take]; omega)
              have := hd _ hm
              rw [spEqZ] at this
              exact this (decide_eq_true e.symm)
          · repeat first | exact trivial | refine And.intro rfl ?_ | refine And.intro trivial ?_ | refine And.intro (And.intro rfl trivial) ?_ | refine And.intro (And.intro rfl (And.intro rfl trivial)) ?_
            exact And.intro (avI (show IntKind.i64.wrap ((k : Int) + 1) = ((k + 1 : Nat) : Int) by rw [wI (by omega) (by omega)]; omega)) trivial
      · have hk' : ¬ (k : Int) < ((ps.length : Nat) : Int) := of_decide_eq_false hc
        have hkn : k = ps.length := by omega
        subst hkn
        repeat first | refine And.intro rfl ?_ | refine Or.inl (And.intro rfl ?_) | refine Or.inr (And.intro rfl ?_) | refine And.intro (fun (_ : true = true) => ?_) (fun (h : true = false) => Bool.noConfusion h) | refine And.intro (fun (h : false = true) => Bool.noConfusion h) (fun (_ : false = false) => ?_)
        refine Exists.intro {k : Nat // k ≤ ps.length ∧ SimF ps k} (Exists.intro (fun k => ⟨[(0, .one (.sl 2 (ps.map spB))), (3, .val (.int .i64 (ps.length : Nat))), (25, .one (.sl 2 (ps.map spB))), (26, .val (.int .i64 (ps.length : Nat))), (27, .val (.int .i64 (k.1 : Nat)))], ⟨[], []⟩⟩) (Exists.intro (fun k => ps.length - k.1) (Exists.intro ⟨0, Nat.zero_le _, fun i hi => absurd hi (Nat.not_lt_zero _)⟩ (And.intro ?_ ?_))))
        · repeat first | exact trivial | refine And.intro rfl ?_ | refine And.intro trivial ?_ | refine And.intro (And.intro rfl trivial) ?_ | refine And.intro (And.intro rfl (And.intro rfl trivial)) ?_
          refine And.intro (avI hL) ?_
          repeat first | exact trivial | refine And.intro rfl ?_ | refine And.intro trivial ?_ | refine And.intro (And.intro rfl trivial) ?_ | refine And.intro (And.intro rfl (And.intro rfl trivial)) ?_
        · rintro ⟨i, hi, hF⟩
          repeat first | refine And.intro rfl ?_ | refine Or.inl (And.intro rfl ?_) | refine Or.inr (And.intro rfl ?_) | refine And.intro (fun (_ : true = true) => ?_) (fun (h : true = false) => Bool.noConfusion h) | refine And.intro (fun (h : false = true) => Bool.noConfusion h) (fun (_ : false = false) => ?_)
          refine And.intro (fun hc => ?_) (fun hc => ?_)
          · have hi' : (i : Int) < ((ps.length : Nat) : Int) := of_decide_eq_true hc
            have g1 : (ps.map spB).getD (i : Int).toNat [] = spB (at2 ps i) := getD_sp ps i (by omega)
            have hw1 : IntKind.i64.wrap ((i : Int) + 1) = ((i + 1 : Nat) : Int) := by rw [wI (by omega) (by omega)]; omega
            have hm1 : (IntKind.i64.wrap ((i : Int) + 1)).tmod ((ps.length : Nat) : Int) = ((nx ps.length i : Nat) : Int) := by rw [hw1, tmod_nat, nx_mod (by omega)]
            have hn1 := nx_lt (show i < ps.length by omega)
            have hg1 : (ps.map spB).getD ((nx ps.length i : Nat) : Int).toNat [] = spB (at2 ps (nx ps.length i)) := getD_sp ps _ hn1
            have hw2 : IntKind.i64.wrap ((i : Int) + 2) = ((i + 2 : Nat) : Int) := by rw [wI (by omega) (by omega)]; omega
            have hm2 : (IntKind.i64.wrap ((i : Int) + 2)).tmod ((ps.length : Nat) : Int) = ((nx ps.length (nx ps.length i) : Nat) : Int) := by rw [hw2, tmod_nat, nx_mod2 (by omega)]
            have hn2 := nx_lt hn1
            have hg2 : (ps.map spB).getD ((nx ps.length (nx ps.length i) : Nat) : Int).toNat [] = spB (at2 ps (nx ps.length (nx ps.length i))) := getD_sp ps _ hn2
            repeat first | refine And.intro rfl ?_ | refine Or.inl (And.intro rfl ?_) | refine Or.inr (And.intro rfl ?_) | refine And.intro (fun (_ : true = true) => ?_) (fun (h : true = false) => Bool.noConfusion h) | refine And.intro (fun (h : false = true) => Bool.noConfusion h) (fun (_ : false = false) => ?_)
            refine And.intro (show 0 ≤ (i : Int) ∧ (i : Int) < (((ps.map spB).length : Nat) : Int) by rw [List.length_map]; omega) ?_
            rw [g1]
            repeat first | refine And.intro rfl ?_ | refine Or.inl (And.intro rfl ?_) | refine Or.inr (And.intro rfl ?_) | refine And.intro (fun (_ : true = true) => ?_) (fun (h : true = false) => Bool.noConfusion h) | refine And.intro (fun (h : false = true) => Bool.noConfusion h) (fun (_ : false = false) => ?_)
            refine And.intro (show ((ps.length : Nat) : Int) ≠ 0 by omega) ?_
            rw [hm1]
            repeat first | refine And.intro rfl ?_ | refine Or.inl (And.intro rfl ?_) | refine Or.inr (And.intro rfl ?_) | refine And.intro (fun (_ : true = true) => ?_) (fun (h : true = false) => Bool.noConfusion h) | refine And.intro (fun (h : false = true) => Bool.noConfusion h) (fun (_ : false = false) => ?_)
            refine And.intro (show 0 ≤ ((nx ps.length i : Nat) : Int) ∧ ((nx ps.length i : Nat) : Int) < (((ps.map spB).length : Nat) : Int) by rw [List.length_map]; omega) ?_
            rw [hg1]
            repeat first | refine And.intro rfl ?_ | refine Or.inl (And.intro rfl ?_) | refine Or.inr (And.intro rfl ?_) | refine And.intro (fun (_ : true = true) => ?_) (fun (h : true = false) => Bool.noConfusion h) | refine And.intro (fun (h : false = true) => Bool.noConfusion h) (fun (_ : false = false) => ?_)
            refine And.intro (show ((ps.length : Nat) : Int) ≠ 0 by omega) ?_
            rw [hm2]
            repeat first | refine And.intro rfl ?_ | refine Or.inl (And.intro rfl ?_) | refine Or.inr (And.intro rfl ?_) | refine And.intro (fun (_ : true = true) => ?_) (fun (h : true = false) => Bool.noConfusion h) | refine And.intro (fun (h : false = true) => Bool.noConfusion h) (fun (_ : false = false) => ?_)
            refine And.intro (show 0 ≤ ((nx ps.length (nx ps.length i) : Nat) : Int) ∧ ((nx ps.length (nx ps.length i) : Nat) : Int) < (((ps.map spB).length : Nat) : Int) by rw [List.length_map]; omega) ?_
            rw [hg2]
            repeat first | refine And.intro rfl ?_ | refine Or.inl (And.intro rfl ?_) | refine Or.inr (And.intro rfl ?_) | refine And.intro (fun (_ : true = true) => ?_) (fun (h : true = false) => Bool.noConfusion h) | refine And.intro (fun (h : false = true) => Bool.noConfusion h) (fun (_ : false = false) => ?_)
            refine And.intro (And.intro (hgr (by omega)) (And.intro (hgr hn1) (hgr hn2))) ?_
            repeat first | refine And.intro rfl ?_ | refine Or.inl (And.intro rfl ?_) | refine Or.inr (And.intro rfl ?_) | refine And.intro (fun (_ : true = true) => ?_) (fun (h : true = false) => Bool.noConfusion h) | refine And.intro (fun (h : false = true) => Bool.noConfusion h) (fun (_ : false = false) => ?_)
            refine And.intro (fun hd => ?_) (fun hd => ?_)
            · have hd : foldZ (at2 ps i) (at2 ps (nx ps.length i)) (at2 ps (nx ps.length (nx ps.length i))) := of_decide_eq_true hd
              repeat first | refine And.intro rfl ?_ | refine Or.inl (And.intro rfl ?_) | refine Or.inr (And.intro rfl ?_) | refine And.intro (fun (_ : true = true) => ?_) (fun (h : true = false) => Bool.noConfusion h) | refine And.intro (fun (h : false = true) => Bool.noConfusion h) (fun (_ : false = false) => ?_)
              exact resB (simB_no (sim_f (by omega) hd))
            · have hd : ¬ foldZ (at2 ps i) (at2 ps (nx ps.length i)) (at2 ps (nx ps.length (nx ps.length i))) := of_decide_eq_false hd
              repeat first | refine And.intro rfl ?_ | refine Or.inl (And.intro rfl ?_) | refine Or.inr (And.intro rfl ?_) | refine And.intro (fun (_ : true = true) => ?_) (fun (h : true = false) => Bool.noConfusion h) | refine And.intro (fun (h : false = true) => Bool.noConfusion h) (fun (_ : false = false) => ?_)
              refine Exists.intro {k : Nat // (i + 2 ≤ k ∧ k ≤ ps.length + 2) ∧ SimM ps i k} (Exists.intro (fun k => ⟨[(0, .one (.sl 2 (ps.map spB))), (3, .val (.int .i64 (ps.length : Nat))), (6, .val (.int .i64 (i : Nat))), (7, .ptr 0 0), (8, .ptr 1 0), (9, .val (.int .i64 (k.1 : Nat))), (25, .one (.sl 2 (ps.map spB))), (26, .val (.int .i64 (ps.length : Nat))), (27, .val (.int .i64 (i : Nat)))], ⟨[(25, [.val (.int .i64 (at2 ps i).1), .val (.int .i64 (at2 ps i).2)]), (25, [.val (.int .i64 (at2 ps (nx ps.length i)).1), .val (.int .i64 (at2 ps (nx ps.length i)).2)])], []⟩⟩) (Exists.intro (fun k => ps.length + 2 - k.1) (Exists.intro ⟨i + 2, ⟨Nat.le_refl _, by omega⟩, fun k' g1 g2 => by omega⟩ (And.intro ?_ ?_))))
              · repeat first | exact trivial | refine And.intro rfl ?_ | refine And.intro trivial ?_ | refine And.intro (And.intro rfl trivial) ?_ | refine And.intro (And.intro rfl (And.intro rfl trivial)) ?_
                refine And.intro (avI hw2) ?_
                repeat first | exact trivial | refine And.intro rfl ?_ | refine And.intro trivial ?_ | refine And.intro (And.intro rfl trivial) ?_ | refine And.intro (And.intro rfl (And.intro rfl trivial)) ?_
              · rintro ⟨k, ⟨hk1, hk2⟩, hM⟩
                repeat first | refine And.intro rfl ?_ | refine Or.inl (And.intro rfl ?_) | refine Or.inr (And.intro rfl ?_) | refine And.intro (fun (_ : true = true) => ?_) (fun (h : true = false) => Bool.noConfusion h) | refine And.intro (fun (h : false = true) => Bool.noConfusion h) (fun (_ : false = false) => ?_)
                by_cases hkn : (k : Int) < ((ps.length : Nat) : Int)
                case neg =>
                  refine Or.inr (And.intro (decide_eq_false hkn) ?_)
                  repeat first | refine And.intro rfl ?_ | refine Or.inl (And.intro rfl ?_) | refine Or.inr (And.intro rfl ?_) | refine And.intro (fun (_ : true = true) => ?_) (fun (h : true = false) => Bool.noConfusion h) | refine And.intro (fun (h : false = true) => Bool.noConfusion h) (fun (_ : false = false) => ?_)
                  refine Exists.intro ⟨i + 1, by omega, ?_⟩ (And.intro (show ps.length - (i + 1) < ps.length - i by omega) ?_)
                  · intro i' hi'
                    rcases Nat.lt_or_ge i' i with g | g
                    · exact hF i' g
                    · have : i' = i := by omega
                      subst this
                      exact ⟨hd, hM.stop (by omega)⟩
                  · repeat first | exact trivial | refine And.intro rfl ?_ | refine And.intro trivial ?_ | refine And.intro (And.intro rfl trivial) ?_ | refine And.intro (And.intro rfl (And.intro rfl trivial)) ?_
                    exact And.intro (avI hw1) trivial
                have hw3 : IntKind.i64.wrap ((k : Int) + 1) = ((k + 1 : Nat) : Int) := by rw [wI (by omega) (by omega)]; omega
                have hm3 : (IntKind.i64.wrap ((k : Int) + 1)).tmod ((ps.length : Nat) : Int) = ((nx ps.length k : Nat) : Int) := by rw [hw3, tmod_nat, nx_mod (by omega)]
                have hn3 := nx_lt (show k < ps.length by omega)
                have hg3 : (ps.map spB).getD ((nx ps.length k : Nat) : Int).toNat [] = spB (at2 ps (nx ps.length k)) := getD_sp ps _ hn3
                have g3 : (ps.map spB).getD (k : Int).toNat [] = spB (at2 ps k) := getD_sp ps k (by omega)
                refine Or.inl (And.intro (decide_eq_true hkn) ?_)
                repeat first | refine And.intro rfl ?_ | refine Or.inl (And.intro rfl ?_) | refine Or.inr (And.intro rfl ?_) | refine And.intro (fun (_ : true = true) => ?_) (fun (h : true = false) => Bool.noConfusion h) | refine And.intro (fun (h : false = true) => Bool.noConfusion h) (fun (_ : false = false) => ?_)
                refine And.intro (show ((ps.length : Nat) : Int) ≠ 0 by omega) ?_
                rw [hm3]
                repeat first | refine And.intro rfl ?_ | refine Or.inl (And.intro rfl ?_) | refine Or.inr (And.intro rfl ?_) | refine And.intro (fun (_ : true = true) => ?_) (fun (h : true = false) => Bool.noConfusion h) | refine And.intro (fun (h : false = true) => Bool.noConfusion h) (fun (_ : false = false) => ?_)
                refine And.intro (fun he => ?_) (fun he => ?_)
                · have he : nx ps.length k ≠ i := by
                    have he : (((nx ps.length k : Nat) : Int) != (i : Int)) = true := he
                    intro e
                    rw [e] at he
                    simp at he
                  repeat first | refine And.intro rfl ?_ | refine Or.inl (And.intro rfl ?_) | refine Or.inr (And.intro rfl ?_) | refine And.intro (fun (_ : true = true) => ?_) (fun (h : true = false) => Bool.noConfusion h) | refine And.intro (fun (h : false = true) => Bool.noConfusion h) (fun (_ : false = false) => ?_)
                  refine And.intro (show 0 ≤ (k : Int) ∧ (k : Int) < (((ps.map spB).length : Nat) : Int) by rw [List.length_map]; omega) ?_
                  rw [g3]
                  repeat first | refine And.intro rfl ?_ | refine Or.inl (And.intro rfl ?_) | refine Or.inr (And.intro rfl ?_) | refine And.intro (fun (_ : true = true) => ?_) (fun (h : true = false) => Bool.noConfusion h) | refine And.intro (fun (h : false = true) => Bool.noConfusion h) (fun (_ : false = false) => ?_)
                  refine And.intro (show ((ps.length : Nat) : Int) ≠ 0 by omega) ?_
                  rw [hm3]
                  repeat first | refine And.intro rfl ?_ | refine Or.inl (And.intro rfl ?_) | refine Or.inr (And.intro rfl ?_) | refine And.intro (fun (_ : true = true) => ?_) (fun (h : true = false) => Bool.noConfusion h) | refine And.intro (fun (h : false = true) => Bool.noConfusion h) (fun (_ : false = false) => ?_)
                  refine And.intro (show 0 ≤ ((nx ps.length k : Nat) : Int) ∧ ((nx ps.length k : Nat) : Int) < (((ps.map spB).length : Nat) : Int) by rw [List.length_map]; omega) ?_
                  rw [hg3]
                  repeat first | refine And.intro rfl ?_ | refine Or.inl (And.intro rfl ?_) | refine Or.inr (And.intro rfl ?_) | refine And.intro (fun (_ : true = true) => ?_) (fun (h : true = false) => Bool.noConfusion h) | refine And.intro (fun (h : false = true) => Bool.noConfusion h) (fun (_ : false = false) => ?_)
                  refine And.intro (And.intro (hgr (by omega)) (And.intro (hgr hn1) (And.intro (hgr (by omega)) (hgr hn3)))) ?_
                  repeat first | refine And.intro rfl ?_ | refine Or.inl (And.intro rfl ?_) | refine Or.inr (And.intro rfl ?_) | refine And.intro (fun (_ : true = true) => ?_) (fun (h : true = false) => Bool.noConfusion h) | refine And.intro (fun (h : false = true) => Bool.noConfusion h) (fun (_ : false = false) => ?_)
                  refine And.intro (fun hm => ?_) (fun hm => ?_)
                  · have hm : meetZ (at2 ps i) (at2 ps (nx ps.length i)) (at2 ps k) (at2 ps (nx ps.length k)) := of_decide_eq_true hm
                    repeat first | refine And.intro rfl ?_ | refine Or.inl (And.intro rfl ?_) | refine Or.inr (And.intro rfl ?_) | refine And.intro (fun (_ : true = true) => ?_) (fun (h : true = false) => Bool.noConfusion h) | refine And.intro (fun (h : false = true) => Bool.noConfusion h) (fun (_ : false = false) => ?_)
                    exact resB (simB_no (sim_m hk1 (by omega) he hm))
                  · have hm : ¬ meetZ (at2 ps i) (at2 ps (nx ps.length i)) (at2 ps k) (at2 ps (nx ps.length k)) := of_decide_eq_false hm
                    repeat first | refine And.intro rfl ?_ | refine Or.inl (And.intro rfl ?_) | refine Or.inr (And.intro rfl ?_) | refine And.intro (fun (_ : true = true) => ?_) (fun (h : true = false) => Bool.noConfusion h) | refine And.intro (fun (h : false = true) => Bool.noConfusion h) (fun (_ : false = false) => ?_)
                    refine Exists.intro ⟨k + 1, ⟨by omega, by omega⟩, hM.next hm⟩ (And.intro (show ps.length + 2 - (k + 1) < ps.length + 2 - k by omega) ?_)
                    repeat first | exact trivial | refine And.intro rfl ?_ | refine And.intro trivial ?_ | refine And.intro (And.intro rfl trivial) ?_ | refine And.intro (And.intro rfl (And.intro rfl trivial)) ?_
                    refine And.intro (avI hw3) ?_
                    repeat first | exact trivial | refine And.intro rfl ?_ | refine And.intro trivial ?_ | refine And.intro (And.intro rfl trivial) ?_ | refine And.intro (And.intro rfl (And.intro rfl trivial)) ?_
                · have he : nx ps.length k = i := by
                    have he : (((nx ps.length k : Nat) : Int) != (i : Int)) = false := he
                    simp at he
                    omega
                  repeat first | refine And.intro rfl ?_ | refine Or.inl (And.intro rfl ?_) | refine Or.inr (And.intro rfl ?_) | refine And.intro (fun (_ : true = true) => ?_) (fun (h : true = false) => Bool.noConfusion h) | refine And.intro (fun (h : false = true) => Bool.noConfusion h) (fun (_ : false = false) => ?_)
                  refine Exists.intro ⟨i + 1, by omega, ?_⟩ (And.intro (show ps.length - (i + 1) < ps.length - i by omega) ?_)
                  · intro i' hi'
                    rcases Nat.lt_or_ge i' i with g | g
                    · exact hF i' g
                    · have : i' = i := by omega
                      subst this
                      exact ⟨hd, hM.last hk1 (by omega) he⟩
                  · repeat first | exact trivial | refine And.intro rfl ?_ | refine And.intro trivial ?_ | refine And.intro (And.intro rfl trivial) ?_ | refine And.intro (And.intro rfl (And.intro rfl trivial)) ?_
                    exact And.intro (avI hw1) trivial
          · have hi' : ¬ (i : Int) < ((ps.length : Nat) : Int) := of_decide_eq_false hc
            have hin : i = ps.length := by omega
            subst hin
            repeat first | refine And.intro rfl ?_ | refine Or.inl (And.intro rfl ?_) | refine Or.inr (And.intro rfl ?_) | refine And.intro (fun (_ : true = true) => ?_) (fun (h : true = false) => Bool.noConfusion h) | refine And.intro (fun (h : false = true) => Bool.noConfusion h) (fun (_ : false = false) => ?_)
            exact resB (simB_yes (sim_of hA hF))
  · cases h

/-- What Check returns. -/
noncomputable def chkZ (ps : List Z2) : Int := cond (decide (40 < ps.length)) 5 (cond (decide (ps.length < 3)) 11 (cond (ps.any fun p => !decide (Gr p)) 3 (cond (simB ps) 0 11)))

noncomputable def sCheck : List RV → Option (Prop × Res)
  | [.one (.sl 2 l)] => some (IsSp l ∧ l.length ≤ 100000, .r (.val (.int .i64 (chkZ (spots l)))))
  | _ => none

noncomputable def TG6 : Table := [(117, sContainsFunc), (119, sSimple)]
theorem TG6_ok : TabOk TG6 := TabOk.cons ok_slContainsFunc (TabOk.cons ok_simple TabOk.nil)

theorem all_gr {ps : List Z2} (h : (ps.any fun p => !decide (Gr p)) = false) : ∀ p, p ∈ ps → Gr p := by
  intro p hp
  rw [List.any_eq_false] at h
  have := h p hp
  simpa using this

set_option maxHeartbeats 1000000 in
theorem ok_Check : Ok1 61 sCheck := by
  refine ok_of TG6_ok Try.func61 rfl (by kernel_rfl) ?_
  intro xs pre res h hp hlim
  unfold sCheck at h
  split at h
  · rename_i l
    cases h
    have hs : (spots l).length = l.length := by simp [spots]
    refine And.intro (Nat.le_of_ble_eq_true rfl) ?_
    repeat first | refine And.intro rfl ?_ | refine Or.inl (And.intro rfl ?_) | refine Or.inr (And.intro rfl ?_) | refine And.intro (fun (_ : true = true) => ?_) (fun (h : true = false) => Bool.noConfusion h) | refine And.intro (fun (h : false = true) => Bool.noConfusion h) (fun (_ : false = false) => ?_)
    refine And.intro (fun hc => ?_) (fun hc => ?_)
    · have hc : (l.length : Int) > 40 := of_decide_eq_true hc
      repeat first | refine And.intro rfl ?_ | refine Or.inl (And.intro rfl ?_) | refine Or.inr (And.intro rfl ?_) | refine And.intro (fun (_ : true = true) => ?_) (fun (h : true = false) => Bool.noConfusion h) | refine And.intro (fun (h : false = true) => Bool.noConfusion h) (fun (_ : false = false) => ?_)
      refine resI ?_
      unfold chkZ
      rw [decide_eq_true (show 40 < (spots l).length by omega)]
      rfl
    · have hc : ¬ (l.length : Int) > 40 := of_decide_eq_false hc
      have d1 : decide (40 < (spots l).length) = false := decide_eq_false (by omega)
      repeat first | refine And.intro rfl ?_ | refine Or.inl (And.intro rfl ?_) | refine Or.inr (And.intro rfl ?_) | refine And.intro (fun (_ : true = true) => ?_) (fun (h : true = false) => Bool.noConfusion h) | refine And.intro (fun (h : false = true) => Bool.noConfusion h) (fun (_ : false = false) => ?_)
      refine And.intro (fun hd => ?_) (fun hd => ?_)
      · have hd : (l.length : Int) < 3 := of_decide_eq_true hd
        repeat first | refine And.intro rfl ?_ | refine Or.inl (And.intro rfl ?_) | refine Or.inr (And.intro rfl ?_) | refine And.intro (fun (_ : true = true) => ?_) (fun (h : true = false) => Bool.noConfusion h) | refine And.intro (fun (h : false = true) => Bool.noConfusion h) (fun (_ : false = false) => ?_)
        refine resI ?_
        unfold chkZ
        rw [d1, decide_eq_true (show (spots l).length < 3 by omega)]
        rfl
      · have hd : ¬ (l.length : Int) < 3 := of_decide_eq_false hd
        have d2 : decide ((spots l).length < 3) = false := decide_eq_false (by omega)
        repeat first | refine And.intro rfl ?_ | refine Or.inl (And.intro rfl ?_) | refine Or.inr (And.intro rfl ?_) | refine And.intro (fun (_ : true = true) => ?_) (fun (h : true = false) => Bool.noConfusion h) | refine And.intro (fun (h : false = true) => Bool.noConfusion h) (fun (_ : false = false) => ?_)
        refine And.intro hp ?_
        cases hg : ((spots l).any fun p => !decide (Gr p)) with
        | true =>
          repeat first | refine And.intro rfl ?_ | refine Or.inl (And.intro rfl ?_) | refine Or.inr (And.intro rfl ?_) | refine And.intro (fun (_ : true = true) => ?_) (fun (h : true = false) => Bool.noConfusion h) | refine And.intro (fun (h : false = true) => Bool.noConfusion h) (fun (_ : false = false) => ?_)
          refine resI ?_
          unfold chkZ
          rw [d1, d2, hg]
          rfl
        | false =>
          repeat first | refine And.intro rfl ?_ | refine Or.inl (And.intro rfl ?_) | refine Or.inr (And.intro rfl ?_) | refine And.intro (fun (_ : true = true) => ?_) (fun (h : true = false) => Bool.noConfusion h) | refine And.intro (fun (h : false = true) => Bool.noConfusion h) (fun (_ : false = false) => ?_)
          refine And.intro (And.intro (And.intro hp.1 (show l.length ≤ 40 by omega)) (And.intro (all_gr hg) (show 0 < l.length by omega))) ?_
          cases hb : simB (spots l) with
          | true =>
            repeat first | refine And.intro rfl ?_ | refine Or.inl (And.intro rfl ?_) | refine Or.inr (And.intro rfl ?_) | refine And.intro (fun (_ : true = true) => ?_) (fun (h : true = false) => Bool.noConfusion h) | refine And.intro (fun (h : false = true) => Bool.noConfusion h) (fun (_ : false = false) => ?_)
            refine resI ?_
            unfold chkZ
            rw [d1, d2, hg, hb]
            rfl
          | false =>
            repeat first | refine And.intro rfl ?_ | refine Or.inl (And.intro rfl ?_) | refine Or.inr (And.intro rfl ?_) | refine And.intro (fun (_ : true = true) => ?_) (fun (h : true = false) => Bool.noConfusion h) | refine And.intro (fun (h : false = true) => Bool.noConfusion h) (fun (_ : false = false) => ?_)
            refine resI ?_
            unfold chkZ
            rw [d1, d2, hg, hb]
            rfl
  · cases h

noncomputable def TG7 : Table := [(61, sCheck), (120, sArea)]
theorem TG7_ok : TabOk TG7 := TabOk.cons ok_Check (TabOk.cons ok_area TabOk.nil)

/-- What Area2 returns. -/
noncomputable def ar2Z (ps : List Z2) : Int := cond (chkZ ps == 0) (areaZ ps) 0

noncomputable def sArea2 : List RV → Option (Prop × Res)
  | [.one (.sl 2 l)] => some (IsSp l ∧ l.length ≤ 100000, .r (.val (.int .i64 (ar2Z (spots l)))))
  | _ => none

theorem chk_ok {ps : List Z2} : chkZ ps = 0 ↔ (ps.length ≤ 40 ∧ 3 ≤ ps.length) ∧ (ps.any fun p => !decide (Gr p)) = false ∧ SimP ps := by
  unfold chkZ
  by_cases h1 : 40 < ps.length
  · rw [decide_eq_true h1]
    exact ⟨fun h => (by cases h), fun h => by omega⟩
  · rw [decide_eq_false h1]
    by_cases h2 : ps.length < 3
    · rw [decide_eq_true h2]
      exact ⟨fun h => (by cases h), fun h => by omega⟩
    · rw [decide_eq_false h2]
      cases hg : (ps.any fun p => !decide (Gr p)) with
      | true => exact ⟨fun h => (by cases h), fun h => by cases h.2.1⟩
      | false =>
        cases hb : simB ps with
        | true => exact ⟨fun _ => ⟨⟨by omega, by omega⟩, rfl, simB_iff.1 hb⟩, fun _ => rfl⟩
        | false => exact ⟨fun h => (by cases h), fun h => by have := simB_iff.2 h.2.2; rw [hb] at this; cases this⟩

theorem ok_Area2 : Ok1 62 sArea2 := by
  refine ok_of TG7_ok Try.func62 rfl (by kernel_rfl) ?_
  intro xs pre res h hp hlim
  unfold sArea2 at h
  split at h
  · rename_i l
    cases h
    have hs : (spots l).length = l.length := by simp [spots]
    refine And.intro (Nat.le_of_ble_eq_true rfl) ?_
    repeat first | refine And.intro rfl ?_ | refine Or.inl (And.intro rfl ?_) | refine Or.inr (And.intro rfl ?_) | refine And.intro (fun (_ : true = true) => ?_) (fun (h : true = false) => Bool.noConfusion h) | refine And.intro (fun (h : false = true) => Bool.noConfusion h) (fun (_ : false = false) => ?_)
    refine And.intro hp ?_
    unfold ar2Z
    by_cases h0 : chkZ (spots l) = 0
    · obtain ⟨⟨k1, _⟩, k2, _⟩ := chk_ok.1 h0
      rw [h0]
      repeat first | refine And.intro rfl ?_ | refine Or.inl (And.intro rfl ?_) | refine Or.inr (And.intro rfl ?_) | refine And.intro (fun (_ : true = true) => ?_) (fun (h : true = false) => Bool.noConfusion h) | refine And.intro (fun (h : false = true) => Bool.noConfusion h) (fun (_ : false = false) => ?_)
      refine And.intro (And.intro (And.intro hp.1 (show l.length ≤ 40 by omega)) (all_gr k2)) ?_
      repeat first | refine And.intro rfl ?_ | refine Or.inl (And.intro rfl ?_) | refine Or.inr (And.intro rfl ?_) | refine And.intro (fun (_ : true = true) => ?_) (fun (h : true = false) => Bool.noConfusion h) | refine And.intro (fun (h : false = true) => Bool.noConfusion h) (fun (_ : false = false) => ?_)
      rfl
    · repeat first | refine And.intro rfl ?_ | refine Or.inl (And.intro rfl ?_) | refine Or.inr (And.intro rfl ?_) | refine And.intro (fun (_ : true = true) => ?_) (fun (h : true = false) => Bool.noConfusion h) | refine And.intro (fun (h : false = true) => Bool.noConfusion h) (fun (_ : false = false) => ?_)
      refine And.intro (fun _ => ?_) (fun hc => absurd (show chkZ (spots l) = 0 by simpa using hc) h0)
      repeat first | refine And.intro rfl ?_ | refine Or.inl (And.intro rfl ?_) | refine Or.inr (And.intro rfl ?_) | refine And.intro (fun (_ : true = true) => ?_) (fun (h : true = false) => Bool.noConfusion h) | refine And.intro (fun (h : false = true) => Bool.noConfusion h) (fun (_ : false = false) => ?_)
      refine resI ?_
      rw [show (chkZ (spots l) == 0) = false from beq_false_of_ne h0]
      rfl
  · cases h

end Go.Gm
