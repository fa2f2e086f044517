/-
  The frame of all proofs of this seat, part J: whole bodies. Plain theorems; no condition.
-/
import Derived.Test.YtihmifpdnipdmaaCoreI
set_option linter.all false
namespace Go.Gm
open Go.RowKit (Below)

section
variable {P : Program} {E : Env} {S : Nat → Prop} {w0 : World} {nt : Nat}

theorem distinct_some : ∀ {l : List (Option Nat)}, distinct l = true → ∀ {i j : Nat} {d : Nat}, l[i]? = some (some d) → l[j]? = some (some d) → i = j
  | [], _, i, j, d, h, _ => by simp at h
  | none :: l, h, _, _, _, _, _ => by cases h
  | some e :: l, h, i, j, d, h1, h2 => by
    simp only [distinct, Bool.and_eq_true, Bool.not_eq_true'] at h
    obtain ⟨ha, hb⟩ := h
    have hnot : ∀ k, l[k]? ≠ some (some e) := fun k hk => by
      have : l.contains (some e) = true := by simpa using List.mem_of_getElem? hk
      rw [ha] at this
      cases this
    cases i with
    | zero =>
      simp only [List.getElem?_cons_zero, Option.some.injEq] at h1
      subst h1
      cases j with
      | zero => rfl
      | succ j => exact absurd (by simpa using h2) (hnot j)
    | succ i =>
      cases j with
      | zero =>
        simp only [List.getElem?_cons_zero, Option.some.injEq] at h2
        subst h2
        exact absurd (by simpa using h1) (hnot i)
      | succ j => rw [distinct_some hb (i := i) (j := j) (by simpa using h1) (by simpa using h2)]

theorem flowN_le : ∀ l : List Oper, flowN l ≤ l.length
  | [] => Nat.le_refl _
  | o :: l => by
    unfold flowN
    cases isTail o.op with
    | true => simp
    | false => have := flowN_le l; simp; omega

theorem drawOps_sound (hE : E.Ok P) (hmix : P.follows .mixedOrders = true) {id : Nat} {ops : Array Oper} {Q : Exit → Act → World → Prop} {st : St} {K : St → Prop} (hfit : fits nt ops.toList = true) (h : drawOps E ops st K)
    {a : Act} {w : World} {bs : An} (hh0 : Has S w0 nt st a w bs) (hK : ∀ st' a' w' bs', K st' → Has S w0 nt st' a' w' bs' → Q .normal a' w') : (Code.region id ops true).wp P Q a w := by
  have hh := hh0.frz (frzList ops.toList)
  unfold drawOps at h
  rw [frzAllK_eq] at h
  generalize frzAll (frzList ops.toList) st = st at h hh
  obtain ⟨n, hchk, h⟩ : ∃ n, flowChk ops n = true ∧ drawAt E ops n st K := by
    unfold drawOps1 at h
    split at h
    · exact ⟨_, ‹_›, h⟩
    · exact ⟨_, h.1, h.2⟩
  unfold drawAt at h
  rw [natsK_eq] at h
  simp only [settleK_eq] at h
  obtain ⟨hc, hdist⟩ := chk_of hchk
  have hdst : ∀ j d, dstOf ops j = some d → d < nt := by
    intro j d hj
    unfold dstOf at hj
    cases ho : ops[j]? with
    | none => rw [ho] at hj; cases hj
    | some o =>
      rw [ho] at hj
      simp only [Option.bind_some] at hj
      have hm : o ∈ ops.toList := by simpa using Array.mem_of_getElem? ho
      have := (List.all_eq_true.1 hfit) o hm
      rw [hj] at this
      exact Nat.le_of_ble_eq_true this
  have htl : (ops.toList.take n).length = n := by have := hc.le; simp; omega
  obtain ⟨RS, hKRS, hidx, hall⟩ := flowOps_steps (P := P) (nt := nt) (bs := bs) hE hdst (ops.toList.take n) 0 [] _ (fun k => by
    rw [Nat.zero_add, List.getElem?_take]
    split
    · exact .inr (by simp)
    · exact .inl rfl) h
  rw [List.append_nil] at hKRS
  simp only [List.append_nil] at hall
  rw [htl] at hidx
  -- the entries
  have hmemN : ∀ i d x, (i, d, x) ∈ RS → i < n := by
    intro i d x hm
    have : i ∈ RS.map (fun e => e.1) := List.mem_map.2 ⟨_, hm, rfl⟩
    rw [hidx] at this
    simp at this
    omega
  have hhas : ∀ i, i < n → ∃ d x, (i, d, x) ∈ RS := by
    intro i hi
    have : i ∈ RS.map (fun e => e.1) := by rw [hidx]; simp; omega
    obtain ⟨⟨j, d, x⟩, hm, rfl⟩ := List.mem_map.1 this
    exact ⟨d, x, hm⟩
  have hnodup : (RS.map fun e => e.1).Nodup := by rw [hidx]; exact (List.reverse_perm _).nodup_iff.2 List.nodup_range'
  have hopd : ∀ i d x, (i, d, x) ∈ RS → ∃ o, ops[i]? = some o ∧ o.dst = some d := fun i d x hm => by
    obtain ⟨o, h1, h2, _⟩ := hall _ hm
    exact ⟨o, h1, h2⟩
  have hent : Entries (dsOf (ops.toList.take n)) nt RS := by
    refine ⟨fun i d x d' x' h1 h2 => ?_, fun i d x i' x' h1 h2 => ?_, fun i d x h1 => ?_⟩
    · have : ∀ (l : List Ent), (l.map fun e => e.1).Nodup → (i, d, x) ∈ l → (i, d', x') ∈ l → d = d' ∧ x = x' := by
        intro l
        induction l with
        | nil => intro _ h _; cases h
        | cons e l ih =>
          intro hnd h1 h2
          simp only [List.map_cons, List.nodup_cons] at hnd
          rcases List.mem_cons.1 h1 with rfl | g1
          · rcases List.mem_cons.1 h2 with h2 | h2
            · injection h2 with _ h2
              injection h2 with h2 h3
              exact ⟨h2.symm, h3.symm⟩
            · exact absurd (List.mem_map.2 ⟨(i, d', x'), h2, rfl⟩) hnd.1
          · rcases List.mem_cons.1 h2 with rfl | g2
            · exact absurd (List.mem_map.2 ⟨(i, d, x), g1, rfl⟩ : i ∈ l.map fun e => e.1) hnd.1
            · exact ih hnd.2 g1 g2
      exact this RS hnodup h1 h2
    · obtain ⟨o1, ho1, hd1⟩ := hopd i d x h1
      obtain ⟨o2, ho2, hd2⟩ := hopd i' d x' h2
      have e1 : ((ops.toList.take n).map fun o => o.dst)[i]? = some (some d) := by
        rw [List.getElem?_map, List.getElem?_take, if_pos (hmemN _ _ _ h1)]
        simp [ho1, hd1]
      have e2 : ((ops.toList.take n).map fun o => o.dst)[i']? = some (some d) := by
        rw [List.getElem?_map, List.getElem?_take, if_pos (hmemN _ _ _ h2)]
        simp [ho2, hd2]
      exact distinct_some hdist e1 e2
    · obtain ⟨o, ho, hd⟩ := hopd i d x h1
      refine ⟨?_, hdst i d (by unfold dstOf; rw [ho]; exact hd)⟩
      unfold dsOf
      rw [List.mem_filterMap]
      refine ⟨o, ?_, hd⟩
      refine List.mem_of_getElem? (i := i) ?_
      rw [List.getElem?_take, if_pos (hmemN _ _ _ h1)]
      simpa using ho
  have hds : ∀ d, d ∈ dsOf (ops.toList.take n) → ∃ i x, (i, d, x) ∈ RS := by
    intro d hd
    unfold dsOf at hd
    rw [List.mem_filterMap] at hd
    obtain ⟨o, ho, hod⟩ := hd
    obtain ⟨i, hi⟩ := List.getElem?_of_mem ho
    rw [List.getElem?_take] at hi
    split at hi
    · rename_i hin
      obtain ⟨d', x, hm⟩ := hhas i hin
      obtain ⟨o', ho', hd'⟩ := hopd i d' x hm
      have : o = o' := by
        have hi' : ops[i]? = some o := by simpa using hi
        rw [ho'] at hi'
        injection hi' with hi'
        exact hi'.symm
      subst this
      rw [hod] at hd'
      injection hd' with hd'
      subst hd'
      exact ⟨i, x, hm⟩
    · cases hi
  have hfd : fits nt (ops.toList.drop n) = true := List.all_eq_true.2 (fun o ho => (List.all_eq_true.1 hfit) o (List.mem_of_mem_drop ho))
  -- the flow
  have flow : ∀ (fuel : Nat) (listed : Array Bool) (a : Act) (w' : World), listed.size = ops.size → (∀ i, n ≤ i → listed.getD i false = false) → Down ops listed → (((List.range ops.size).filter fun i => !listed.getD i false).length ≤ fuel) →
      FI S w0 nt bs st (dsOf (ops.toList.take n)) w.heap.size RS listed a w' → wpAny P .any ops Q fuel listed a w' := by
    intro fuel
    induction fuel with
    | zero =>
      intro listed a w' hsz htail hdown hfuel hF
      have hnil : ((List.range ops.size).filter fun i => !listed.getD i false) = [] := List.eq_nil_of_length_eq_zero (by omega)
      have hdone : ∀ i, i < ops.size → listed.getD i false = true := by
        intro i hi
        cases hl : listed.getD i false with
        | true => rfl
        | false =>
          have : i ∈ ((List.range ops.size).filter fun i => !listed.getD i false) := by
            rw [List.mem_filter, List.mem_range]; exact ⟨hi, by rw [hl]; rfl⟩
          rw [hnil] at this
          cases this
      have hns : ops.size ≤ n := by
        rcases Nat.lt_or_ge n ops.size with hlt | hge
        · have h1 := hdone n hlt
          rw [htail n (Nat.le_refl _)] at h1
          cases h1
        · exact hge
      obtain ⟨bs', hHas⟩ := hF.settled hh.nodup hh.new hh.rnew hh.rdist hh.plain (fun i d x hm => hdone i (Nat.lt_of_lt_of_le (hmemN i d x hm) hc.le)) hds hnodup
      have hwp : wpList P ops Q (ops.toList.drop n) a w' := seqOps_sound hE _ _ K hfd hKRS a w' bs' hHas hK hdst
      have hne : n = ops.size := Nat.le_antisymm hc.le hns
      refine tail_any hc 0 n listed a w' hsz (Nat.le_refl _) hc.le (by omega) (fun i hi => ⟨fun _ => by omega, fun _ => hdone i hi⟩) hwp
    | succ fuel ih =>
      intro listed a w' hsz htail hdown hfuel hF
      by_cases hdone : ∀ i, i < n → listed.getD i false = true
      · obtain ⟨bs', hHas⟩ := hF.settled hh.nodup hh.new hh.rnew hh.rdist hh.plain (fun i d x hm => hdone i (hmemN i d x hm)) hds hnodup
        have hwp : wpList P ops Q (ops.toList.drop n) a w' := seqOps_sound hE _ _ K hfd hKRS a w' bs' hHas hK hdst
        refine tail_any hc (fuel + 1) n listed a w' hsz (Nat.le_refl _) hc.le ?_ (fun i hi => ⟨fun hl => ?_, fun hl => hdone i hl⟩) hwp
        · have e : ((List.range ops.size).filter fun i => !listed.getD i false).length ≥ ops.size - n := by
            have hsub : (List.range' n (ops.size - n)).Sublist ((List.range ops.size).filter fun i => !listed.getD i false) := by
              have e1 : List.range' n (ops.size - n) = (List.range' n (ops.size - n)).filter fun i => !listed.getD i false := by
                rw [List.filter_eq_self.2]
                intro i hi
                simp only [List.mem_range'_1] at hi
                rw [htail i hi.1]
                rfl
              rw [e1]
              refine List.Sublist.filter _ ?_
              rw [List.range_eq_range']
              have : List.range' 0 ops.size = List.range' 0 n ++ List.range' n (ops.size - n) := by
                have := List.range'_append (s := 0) (m := n) (n := ops.size - n) (step := 1)
                simp only [Nat.zero_add, Nat.one_mul] at this
                rw [this]
                congr 1
                have := hc.le
                omega
              rw [this]
              exact List.sublist_append_right _ _
            have := hsub.length_le
            simpa using this
          omega
        · rcases Nat.lt_or_ge i n with hlt | hge
          · exact hlt
          · rw [htail i hge] at hl; cases hl
      · refine ⟨fun hr => ?_, fun i hi => ?_⟩
        · exact absurd (fun i hi => some_ready hc hsz hr i (Nat.lt_of_lt_of_le hi hc.le)) hdone
        · obtain ⟨h1, h2, h3⟩ := (ready_iff hsz).1 hi
          have hin : i < n := by
            rcases Nat.lt_or_ge i n with hlt | hge
            · exact hlt
            · exfalso
              apply hdone
              intro j hj
              exact reach_done hdown 5 i j h3 (hc.forced i h1 hge j (by omega))
          obtain ⟨d, x, hm⟩ := hhas i hin
          obtain ⟨o, ho, hod, hstep⟩ := hall _ hm
          simp only at ho hod hstep
          have hil : i < listed.size := by omega
          have hpo : preds o = predsAt ops i := by unfold predsAt; rw [ho]
          have hnext : ∀ a'' w'', FI S w0 nt bs st (dsOf (ops.toList.take n)) w.heap.size RS (listed.setIfInBounds i true) a'' w'' → wpAny P .any ops Q fuel (listed.setIfInBounds i true) a'' w'' := by
            intro a'' w'' hF'
            refine ih _ a'' w'' (by simpa using hsz) (fun j hj => ?_) (hdown.set hil h3) ?_ hF'
            · rw [getD_set _ _ _ hil, if_neg (by omega)]; exact htail j hj
            · have hlt : ((List.range ops.size).filter fun j => !(listed.setIfInBounds i true).getD j false).length < ((List.range ops.size).filter fun j => !listed.getD j false).length := by
                have hsub : ∀ l : List Nat, ((l.filter fun j => !(listed.setIfInBounds i true).getD j false).length ≤ (l.filter fun j => !listed.getD j false).length) ∧ (i ∈ l → (l.filter fun j => !(listed.setIfInBounds i true).getD j false).length < (l.filter fun j => !listed.getD j false).length) := by
                  intro l
                  induction l with
                  | nil => exact ⟨Nat.le_refl _, fun h => by cases h⟩
                  | cons k l ihl =>
                    simp only [List.filter_cons]
                    by_cases hki : k = i
                    · subst hki
                      rw [getD_set _ _ _ hil, if_pos rfl, h2]
                      simp only [Bool.not_true, Bool.not_false, if_true, Bool.false_eq_true, if_false, List.length_cons]
                      exact ⟨by omega, fun _ => by omega⟩
                    · rw [getD_set _ _ _ hil, if_neg hki]
                      cases listed.getD k false with
                      | true =>
                        simp only [Bool.not_true, Bool.false_eq_true, if_false]
                        exact ⟨ihl.1, fun hm => ihl.2 ((List.mem_cons.1 hm).resolve_left (fun e => hki e.symm))⟩
                      | false =>
                        simp only [Bool.not_false, if_true, List.length_cons]
                        exact ⟨by omega, fun hm => by have := ihl.2 ((List.mem_cons.1 hm).resolve_left (fun e => hki e.symm)); omega⟩
                exact (hsub _).2 (List.mem_range.2 h1)
              omega
          refine hstep (Af S w0 bs st.bx.r RS listed a) a w' hF.boxes hF.slots hh.plain (fun j u y hj hjp _ => hF.done j u y hj (h3 j (by rw [← hpo]; exact hjp))) hF.size _ Q (fun hx v w'' hv => ?_) (fun t cs us hx hus => ?_)
          · exact hnext _ _ (hF.step_val hent hil hm hx hv)
          · subst hx
            exact hnext _ _ (hF.step_fresh hent hil hm hus)
  refine wp_region_any hmix (flow ops.size _ a _ (by simp) (fun i _ => ?_) (fun i hi => ?_) ?_ ?_)
  · simp only [Array.getD_eq_getD_getElem?, Array.getElem?_replicate]; split <;> rfl
  · simp only [Array.getD_eq_getD_getElem?, Array.getElem?_replicate] at hi; split at hi <;> cases hi
  · exact Nat.le_trans (List.length_filter_le _ _) (by simp)
  · have hfalse : ∀ i, (Array.replicate ops.size false).getD i false = false := fun i => by
      simp only [Array.getD_eq_getD_getElem?, Array.getElem?_replicate]; split <;> rfl
    have hA : ∀ b, Al S w0 bs st.bx.r b → b < w.heap.size → Af S w0 bs st.bx.r RS (Array.replicate ops.size false) a b := fun b hb _ => ⟨hb, fun i d x _ hl => by rw [hfalse] at hl; cases hl⟩
    exact
      { ext := hh.ext.trans (Ext.draw w)
        lo_le := Nat.le_refl _
        lo_ge := hh.ext.size
        old := fun b hb => hh.boxes.lt hb
        rold := fun k r v b hr hv hd ho => hh.boxes.rlt hr hv hd ho
        boxes := hh.boxes.ext (Ext.draw w) hA
        slots := fun t _ => (hh.slots t).ext (Ext.draw w) hA
        done := fun i d x _ hl => by rw [hfalse] at hl; cases hl
        fresh := fun i d x _ hl => by rw [hfalse] at hl; cases hl
        dist := fun i d x i' d' x' _ _ hl => by rw [hfalse] at hl; cases hl
        size := hh.size
        defers := hh.defers }

end
end Go.Gm
