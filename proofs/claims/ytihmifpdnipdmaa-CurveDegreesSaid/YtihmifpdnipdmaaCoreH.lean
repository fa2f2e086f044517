/-
  The frame of all proofs of this seat, part H: that the order does not matter. Plain theorems; no condition.
-/
import Derived.Test.YtihmifpdnipdmaaCoreG
set_option linter.all false
namespace Go.Gm
open Go.RowKit (Below)

section
variable {P : Program} {E : Env} {S : Nat → Prop} {w0 : World} {nt : Nat} {bs : An}

theorem getD_set (l : Array Bool) (i j : Nat) (hi : i < l.size) : (l.setIfInBounds i true).getD j false = if j = i then true else l.getD j false := by
  simp only [Array.getD_eq_getD_getElem?, Array.getElem?_setIfInBounds]
  by_cases h : i = j
  · subst h; simp [hi]
  · rw [if_neg h, if_neg (fun e => h e.symm)]

theorem ready_iff {ops : Array Oper} {listed : Array Bool} (hsz : listed.size = ops.size) {i : Nat} :
    i ∈ Region.ready .any ops listed ↔ i < ops.size ∧ listed.getD i false = false ∧ ∀ j, j ∈ predsAt ops i → listed.getD j false = true := by
  unfold Region.ready
  rw [List.mem_filter, List.mem_range]
  constructor
  · rintro ⟨hi, h⟩
    simp only [Bool.and_eq_true, Bool.not_eq_true'] at h
    obtain ⟨h1, h2⟩ := h
    refine ⟨hi, ?_, ?_⟩
    · have hl : i < listed.size := by omega
      simp only [Array.getD_eq_getD_getElem?, Array.getElem?_eq_getElem hl, Option.getD_some] at h1 ⊢
      exact h1
    · intro j hj
      unfold predsAt at hj
      rw [Array.getElem?_eq_getElem hi] at h2 hj
      simp only [Option.map_some, Option.getD_some, Array.all_eq_true_iff_forall_mem] at h2
      simp only [preds, List.mem_map, List.mem_filter, Array.mem_toList_iff] at hj
      obtain ⟨e, ⟨he1, he2⟩, rfl⟩ := hj
      have := h2 e he1
      rw [he2] at this
      simpa using this
  · rintro ⟨hi, h1, h2⟩
    refine ⟨hi, ?_⟩
    simp only [Bool.and_eq_true, Bool.not_eq_true']
    have hl : i < listed.size := by omega
    refine ⟨?_, ?_⟩
    · simp only [Array.getD_eq_getD_getElem?, Array.getElem?_eq_getElem hl, Option.getD_some] at h1 ⊢
      exact h1
    · rw [Array.getElem?_eq_getElem hi]
      simp only [Option.map_some, Option.getD_some, Array.all_eq_true_iff_forall_mem]
      intro e he
      cases hb : Region.binds .any e with
      | false => simp
      | true =>
        have := h2 e.on (by
          unfold predsAt
          rw [Array.getElem?_eq_getElem hi]
          simp only [preds, List.mem_map, List.mem_filter, Array.mem_toList_iff]
          exact ⟨e, ⟨he, hb⟩, rfl⟩)
        simpa using this

/-- With all that an operation waits for, all that those wait for has been done. -/
def Down (ops : Array Oper) (listed : Array Bool) : Prop := ∀ i, listed.getD i false = true → ∀ j, j ∈ predsAt ops i → listed.getD j false = true

theorem reach_done {ops : Array Oper} {listed : Array Bool} (hd : Down ops listed) : ∀ (d i j : Nat), (∀ k, k ∈ predsAt ops i → listed.getD k false = true) → reach ops d i j = true → listed.getD j false = true
  | 0, i, j, h, hr => h j (by simpa [reach] using hr)
  | d + 1, i, j, h, hr => by
    simp only [reach, Bool.or_eq_true, List.any_eq_true] at hr
    rcases hr with hr | ⟨k, hk, hr⟩
    · exact h j (by simpa using hr)
    · exact reach_done hd d k j (fun m hm => hd k (h k hk) m hm) hr

theorem Down.set {ops : Array Oper} {listed : Array Bool} (hd : Down ops listed) {i : Nat} (hi : i < listed.size) (hp : ∀ j, j ∈ predsAt ops i → listed.getD j false = true) : Down ops (listed.setIfInBounds i true) := by
  intro k hk j hj
  rw [getD_set _ _ _ hi] at hk ⊢
  by_cases hji : j = i
  · rw [if_pos hji]
  · rw [if_neg hji]
    by_cases hki : k = i
    · subst hki; exact hp j hj
    · rw [if_neg hki] at hk; exact hd k hk j hj

structure Chk (ops : Array Oper) (n : Nat) : Prop where
  le : n ≤ ops.size
  back : ∀ i, i < ops.size → ∀ j, j ∈ predsAt ops i → j < i
  forced : ∀ i, i < ops.size → n < i → ∀ j, j < i → reach ops 5 i j = true

theorem chk_of {ops : Array Oper} {n : Nat} (h : flowChk ops n = true) : Chk ops n ∧ distinct ((ops.toList.take n).map fun o => o.dst) = true ∧ (n < ops.size → ∀ j, j < n → reach ops 5 n j = true) := by
  simp only [flowChk, Bool.and_eq_true, List.all_eq_true, List.mem_range, Bool.or_eq_true] at h
  obtain ⟨⟨⟨h1, h2⟩, h3⟩, h4⟩ := h
  have hf : ∀ i, i < ops.size → n ≤ i → ∀ j, j < i → reach ops 5 i j = true := fun i hi hn j hj => by
    rcases h3 i hi with h | h
    · have := Nat.le_of_ble_eq_true h; omega
    · exact h j hj
  exact ⟨⟨Nat.le_of_ble_eq_true h1, fun i hi j hj => Nat.le_of_ble_eq_true (h2 i hi j hj), fun i hi hn => hf i hi (Nat.le_of_lt hn)⟩, h4, fun hn => hf n hn (Nat.le_refl _)⟩
theorem chkL_of {ops : Array Oper} {n e : Nat} (h : flowChkL ops n e = true) : Chk ops n ∧ distinct ((ops.toList.take n).map fun o => o.dst) = true ∧ n < ops.size ∧ e < n ∧ ∀ j, j < n → j ≠ e → reach ops 5 n j = true := by
  simp only [flowChkL, Bool.and_eq_true, List.all_eq_true, List.mem_range, Bool.or_eq_true] at h
  obtain ⟨⟨⟨⟨⟨h1, h2⟩, h3⟩, h4⟩, h5⟩, h6⟩ := h
  have hn : n < ops.size := Nat.le_of_ble_eq_true h1
  refine ⟨⟨Nat.le_of_lt hn, fun i hi j hj => Nat.le_of_ble_eq_true (h3 i hi j hj), fun i hi hni j hj => ?_⟩, h6, hn, Nat.le_of_ble_eq_true h2, fun j hj hje => ?_⟩
  · rcases h4 i hi with h | h
    · have := Nat.le_of_ble_eq_true h; omega
    · exact h j hj
  · rcases h5 j hj with h | h
    · exact absurd (Nat.eq_of_beq_eq_true h) hje
    · exact h

/-- Something is ready while not all is done. -/
theorem some_ready {ops : Array Oper} {n : Nat} (hc : Chk ops n) {listed : Array Bool} (hsz : listed.size = ops.size) (h : Region.ready .any ops listed = []) : ∀ i, i < ops.size → listed.getD i false = true := by
  intro i
  induction i using Nat.strongRecOn with
  | _ i ih =>
    intro hi
    cases hl : listed.getD i false with
    | true => rfl
    | false =>
      have : i ∈ Region.ready .any ops listed := (ready_iff hsz).2 ⟨hi, hl, fun j hj => ih j (hc.back i hi j hj) (Nat.lt_trans (hc.back i hi j hj) hi)⟩
      rw [h] at this
      cases this

/-- The tail goes in its one order. -/
theorem tail_any {ops : Array Oper} {n : Nat} (hc : Chk ops n) {Q : Exit → Act → World → Prop} : ∀ (fuel m : Nat) (listed : Array Bool) (a : Act) (w : World), listed.size = ops.size → n ≤ m → m ≤ ops.size → ops.size - m ≤ fuel →
    (∀ i, i < ops.size → (listed.getD i false = true ↔ i < m)) → wpList P ops Q (ops.toList.drop m) a w → wpAny P .any ops Q fuel listed a w := by
  have hready : ∀ (m : Nat) (listed : Array Bool), listed.size = ops.size → n ≤ m → (∀ i, i < ops.size → (listed.getD i false = true ↔ i < m)) → ∀ i, i ∈ Region.ready .any ops listed → i = m ∧ m < ops.size := by
    intro m listed hsz hnm hD i hi
    obtain ⟨h1, h2, h3⟩ := (ready_iff hsz).1 hi
    have him : ¬ i < m := fun h => by rw [(hD i h1).2 h] at h2; cases h2
    have hdown : Down ops listed := by
      intro k hk j hj
      rcases Nat.lt_or_ge k ops.size with hks | hks
      · have hkm := (hD k hks).1 hk
        have hjk := hc.back k hks j hj
        exact (hD j (by omega)).2 (by omega)
      · rw [Array.getD_eq_getD_getElem?, Array.getElem?_eq_none (by omega)] at hk; cases hk
    rcases Nat.lt_or_ge m i with hlt | hge
    · have := reach_done hdown 5 i m h3 (hc.forced i h1 (by omega) m hlt)
      have := (hD m (by omega)).1 this
      omega
    · have : i = m := by omega
      exact ⟨this, by omega⟩
  intro fuel
  induction fuel with
  | zero =>
    intro m listed a w hsz hnm hms hf hD h
    have hm : m = ops.size := by omega
    subst hm
    refine ⟨?_, ?_⟩
    · cases hr : Region.ready .any ops listed with
      | nil => rfl
      | cons x xs => have := (hready _ listed hsz hnm hD x (by rw [hr]; exact List.mem_cons_self ..)).2; omega
    · rw [List.drop_of_length_le (by simp)] at h
      exact h
  | succ fuel ih =>
    intro m listed a w hsz hnm hms hf hD h
    refine ⟨fun hr => ?_, fun i hi => ?_⟩
    · have hall := some_ready hc hsz hr
      have hm : m = ops.size := by
        rcases Nat.lt_or_ge m ops.size with hlt | hge
        · have := (hD m hlt).1 (hall m hlt); omega
        · omega
      rw [hm, List.drop_of_length_le (by simp)] at h
      exact h
    · obtain ⟨rfl, hlt⟩ := hready m listed hsz hnm hD i hi
      have hget : ops.toList.drop i = ops[i] :: ops.toList.drop (i + 1) := by
        rw [List.drop_eq_getElem_cons (by simpa using hlt)]; simp
      rw [hget] at h
      unfold wpOp
      rw [Array.getElem?_eq_getElem hlt]
      simp only
      unfold wpList at h
      have hnext : ∀ a' w', wpList P ops Q (ops.toList.drop (i + 1)) a' w' → wpAny P .any ops Q fuel (listed.setIfInBounds i true) a' w' := fun a' w' h' => by
        refine ih (i + 1) _ a' w' (by simpa using hsz) (by omega) (by omega) (by omega) (fun k hk => ?_) h'
        rw [getD_set _ _ _ (by omega)]
        by_cases hki : k = i
        · rw [if_pos hki]; simp; omega
        · rw [if_neg hki, hD k hk]; omega
      split
      · rename_i hw
        rw [if_pos hw] at h
        rcases h with h | h
        · exact .inl (Oper.wp_mono hnext h)
        · exact .inr h
      · rename_i hw
        rw [if_neg hw] at h
        exact hnext _ _ h

end
end Go.Gm
