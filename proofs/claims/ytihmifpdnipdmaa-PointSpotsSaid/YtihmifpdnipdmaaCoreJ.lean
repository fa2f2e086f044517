/-
  The frame of all proofs of this seat, part J: whole bodies. Plain theorems; no condition.
-/
import Derived.Test.YtihmifpdnipdmaaCoreI
set_option linter.all false
namespace Go.Gm
open Go.RowKit (Below)

section
variable {P : Program} {E : Env} {S X : Nat → Prop} {w0 : World} {nt : Nat}

theorem distinct_some : ∀ {l : List (Option Nat)}, distinct l = true → ∀ {i j : Nat} {d : Nat}, l[i]? = some (some d) → l[j]? = some (some d) → i = j
  | [], _, i, j, d, h, _ => by simp at h
  | none :: l, h, _, _, _, _, _ => by cases h
  | some e :: l, h, i, j, d, h1, h2 => by
    simp only [distinct, Bool.and_eq_true, Bool.not_eq_true'] at h
    obtain ⟨ha, hb⟩ := h
    have hnot : ∀ k, l[k]? ≠ some (some e) := fun k hk => by
      have : l.contains (some e) = true := by simpa using List.mem_of_getElem? hk
      rw [ha] at this
      cases this
    cases i with
    | zero =>
      simp only [List.getElem?_cons_zero, Option.some.injEq] at h1
      subst h1
      cases j with
      | zero => rfl
      | succ j => exact absurd (by simpa using h2) (hnot j)
    | succ i =>
      cases j with
      | zero =>
        simp only [List.getElem?_cons_zero, Option.some.injEq] at h2
        subst h2
        exact absurd (by simpa using h1) (hnot i)
      | succ j => rw [distinct_some hb (i := i) (j := j) (by simpa using h1) (by simpa using h2)]

theorem flowN_le : ∀ l : List Oper, flowN l ≤ l.length
  | [] => Nat.le_refl _
  | o :: l => by
    unfold flowN
    cases isTail o.op with
    | true => simp
    | false => have := flowN_le l; simp; omega

theorem Has.drawn {st : St} {a : Act} {w : World} {bs : An} (hh : Has S X w0 nt st a w bs) : Has S X w0 nt st a { w with drawn := w.drawn + 1 } bs :=
  { ext := hh.ext.trans (Ext.draw w)
    xs := hh.xs
    boxes := hh.boxes.ext (Ext.draw w) (fun b hb _ => hb)
    nodup := hh.nodup
    new := hh.new
    rnew := hh.rnew
    rdist := hh.rdist
    slots := fun t => (hh.slots t).ext (Ext.draw w) (fun b hb _ => hb)
    plain := hh.plain
    size := hh.size
    defers := hh.defers }

theorem rdy_iff {ops : Array Oper} {listed : Array Bool} {done : List Nat} (hsz : listed.size = ops.size) (hd : ∀ i, listed.getD i false = done.contains i) {i : Nat} : i ∈ Region.ready .any ops listed ↔ i ∈ rdy ops done := by
  rw [ready_iff hsz]
  unfold rdy
  rw [List.mem_filter, List.mem_range]
  simp only [Bool.and_eq_true, Bool.not_eq_true', List.all_eq_true, hd]

theorem expl_sound (hE : E.Ok P) {ops : Array Oper} {Q : Exit → Act → World → Prop} {K : St → Prop} (hfit : fits nt ops.toList = true) (hK : ∀ st' a' w' bs', K st' → Has S X w0 nt st' a' w' bs' → Q .normal a' w') :
    ∀ (f : Nat) (listed : Array Bool) (done : List Nat) (st : St) (a : Act) (w : World) (bs : An), listed.size = ops.size → (∀ i, listed.getD i false = done.contains i) → expl E ops f done st K → Has S X w0 nt st a w bs → wpAny P .any ops Q f listed a w
  | 0, listed, done, st, a, w, bs, hsz, hd, h, hh => by
    refine ⟨?_, hK _ _ _ _ h.2 hh⟩
    cases hr : Region.ready .any ops listed with
    | nil => rfl
    | cons r rs =>
      have : r ∈ rdy ops done := (rdy_iff hsz hd).1 (by rw [hr]; exact List.mem_cons_self ..)
      rw [h.1] at this
      cases this
  | f + 1, listed, done, st, a, w, bs, hsz, hd, h, hh => by
    unfold expl at h
    refine ⟨fun hr => ?_, fun i hi => ?_⟩
    · cases hr' : rdy ops done with
      | nil => rw [hr'] at h; exact hK _ _ _ _ h hh
      | cons r rs =>
        have : r ∈ Region.ready .any ops listed := (rdy_iff hsz hd).2 (by rw [hr']; exact List.mem_cons_self ..)
        rw [hr] at this
        cases this
    · have hil : i < listed.size := by rw [hsz]; exact ((ready_iff hsz).1 hi).1
      have hi := (rdy_iff hsz hd).1 hi
      cases hr : rdy ops done with
      | nil => rw [hr] at hi; cases hi
      | cons r rs =>
        rw [hr] at h hi
        have h := allP_mem h i hi
        unfold wpOp
        split at h
        · rename_i o ho
          obtain ⟨hg, h⟩ := h
          rw [ho]
          simp only
          have hgn : o.guard = none := by
            cases hgd : o.guard with
            | none => rfl
            | some x => rw [hgd] at hg; cases hg
          rw [if_pos (by simp [Region.wanted, hgn])]
          refine .inl (doOp_sound hE (fun d hd => ?_) h hh _ Q (fun st' a' w' bs' hs hh' => expl_sound hE hfit hK f _ (i :: done) st' a' w' bs' (by simpa using hsz) (fun j => ?_) hs hh'))
          · have hm : o ∈ ops.toList := by simpa using Array.mem_of_getElem? ho
            have := (List.all_eq_true.1 hfit) o hm
            rw [hd] at this
            exact Nat.le_of_ble_eq_true this
          · rw [getD_set _ _ _ hil, List.contains_cons, hd j]
            by_cases hji : j = i
            · subst hji; simp
            · rw [if_neg hji]; simp [hji]
        · exact h.elim

/-- All is done but one: what is known then. -/
theorem late_has {ops : Array Oper} {st : St} {n e d : Nat} {o : Oper} {a0 : Act} {w1 : World} {bs : An} (hh : Has S X w0 nt st a0 w1 bs) {lo : Nat} {ds : List Nat} {RS : List Ent} {listed : Array Bool} {a : Act} {w : World}
    (h : FI S X w0 nt bs st ds lo RS listed a w) (hR : ∀ i d x, (i, d, x) ∈ RS → i < n ∧ ∃ o, ops[i]? = some o ∧ o.dst = some d) (hnd : (RS.map fun e => e.1).Nodup) (hent : Entries ds nt RS) (hds : ∀ d, d ∈ ds → ∃ i x, (i, d, x) ∈ RS)
    (ho : ops[e]? = some o) (hod : o.dst = some d) (hdn : ∀ j, j < n → j ≠ e → listed.getD j false = true) (hel : listed.getD e false = false) :
    ∃ bs', Has S X w0 nt (settle (dropE e RS) ⟨(d, .any) :: st.sl, ⟨st.bx.b, st.bx.r⟩⟩) a w bs' := by
  have hsub : ∀ i u x, (i, u, x) ∈ dropE e RS → (i, u, x) ∈ RS := fun i u x hm => (dropE_mem.1 hm).1
  have hA : ∀ b, Af S w0 bs st.bx.r RS listed a b → b < w.heap.size → Af S w0 bs st.bx.r (dropE e RS) listed a b := fun b hb _ => ⟨hb.1, fun i u x hm => hb.2 i u x (hsub i u x hm)⟩
  have hlk : ∀ t, t ≠ d → look t ((d, .any) :: st.sl) = look t st.sl := fun t ht => by
    have : Nat.beq t d = false := by
      cases hb : Nat.beq t d with
      | true => exact absurd (Nat.eq_of_beq_eq_true hb) ht
      | false => rfl
    show cond (Nat.beq t d) AV.any (look t st.sl) = _
    rw [this]
    rfl
  have hlkd : look d ((d, .any) :: st.sl) = .any := by
    show cond (Nat.beq d d) AV.any (look d st.sl) = _
    rw [Nat.beq_refl]
    rfl
  have hF : FI S X w0 nt bs ⟨(d, .any) :: st.sl, ⟨st.bx.b, st.bx.r⟩⟩ (ds.filter fun t => !Nat.beq t d) lo (dropE e RS) listed a w :=
    { ext := h.ext
      lo_le := h.lo_le
      lo_ge := h.lo_ge
      old := h.old
      rold := h.rold
      boxes := h.boxes.ext (Ext.refl w) hA
      slots := fun t ht => by
        by_cases hd : t = d
        · subst hd
          simp only
          rw [hlkd]
          trivial
        · simp only
          rw [hlk t hd]
          refine (h.slots t (fun hm => ht ?_)).ext (Ext.refl w) hA
          rw [List.mem_filter]
          refine ⟨hm, ?_⟩
          cases hb : Nat.beq t d with
          | true => exact absurd (Nat.eq_of_beq_eq_true hb) hd
          | false => rfl
      done := fun i u x hm hl => (h.done i u x (hsub i u x hm) hl).ext (Ext.refl w) hA
      fresh := fun i u x hm => h.fresh i u x (hsub i u x hm)
      dist := fun i u x i' u' x' hm hm' => h.dist i u x i' u' x' (hsub i u x hm) (hsub i' u' x' hm')
      copy := fun i u t hm hl => by
        obtain ⟨c1, j, y, c2, c3⟩ := h.copy i u t (hsub i u _ hm) hl
        refine ⟨c1, j, y, dropE_mem.2 ⟨c2, fun hj => ?_⟩, c3⟩
        rw [hj, hel] at c3
        cases c3
      size := h.size
      defers := h.defers }
  refine hF.settled hh.xs hh.nodup hh.new hh.rnew hh.rdist (fun t => ?_) (fun i u x hm => ?_) (fun u hu => ?_) ?_
  · by_cases hd : t = d
    · subst hd; simp only; rw [hlkd]; rfl
    · simp only; rw [hlk t hd]; exact hh.plain t
  · obtain ⟨hm1, hm2⟩ := dropE_mem.1 hm
    exact hdn i (hR i u x hm1).1 hm2
  · rw [List.mem_filter] at hu
    obtain ⟨i, x, hm⟩ := hds u hu.1
    refine ⟨i, x, dropE_mem.2 ⟨hm, fun hi => ?_⟩⟩
    subst hi
    obtain ⟨_, o', ho', hd'⟩ := hR i u x hm
    rw [ho] at ho'
    injection ho' with ho'
    subst ho'
    rw [hod] at hd'
    injection hd' with hd'
    subst hd'
    rw [Nat.beq_refl] at hu
    cases hu.2
  · exact hnd.sublist ((dropE_sub e RS).map _)

theorem count_two {n e m : Nat} {listed : Array Bool} (hn : n < m) (hen : e < n) (h1 : listed.getD n false = false) (h2 : listed.getD e false = false) (htail : ∀ i, n ≤ i → listed.getD i false = false) : m - n + 1 ≤ ((List.range m).filter fun i => !listed.getD i false).length := by
  have hsub : (e :: List.range' n (m - n)).Sublist ((List.range m).filter fun i => !listed.getD i false) := by
    have e1 : (e :: List.range' n (m - n)) = (e :: List.range' n (m - n)).filter fun i => !listed.getD i false := by
      rw [List.filter_eq_self.2]
      intro i hi
      rcases List.mem_cons.1 hi with rfl | hi
      · rw [h2]; rfl
      · simp only [List.mem_range'_1] at hi
        rw [htail i hi.1]; rfl
    rw [e1]
    refine List.Sublist.filter _ ?_
    rw [List.range_eq_range']
    have e2 : List.range' 0 m = List.range' 0 n ++ List.range' n (m - n) := by
      have := List.range'_append (s := 0) (m := n) (n := m - n) (step := 1)
      simp only [Nat.zero_add, Nat.one_mul] at this
      rw [this]
      congr 1
      omega
    rw [e2]
    have h3 : [e].Sublist (List.range' 0 n) := List.singleton_sublist.2 (by simp; omega)
    exact h3.append (List.Sublist.refl _)
  have := hsub.length_le
  simpa using this

theorem late_any {ops : Array Oper} {Q : Exit → Act → World → Prop} {n e : Nat} {s o : Oper} (hc : Chk ops n) (hn : n < ops.size) (hen : e < n) (hs : ops[n]? = some s) (ho : ops[e]? = some o) (hgs : s.guard = none) (hgo : o.guard = none)
    {fuel : Nat} {listed : Array Bool} {a : Act} {w : World} (hsz : listed.size = ops.size) (htail : ∀ i, n ≤ i → listed.getD i false = false) (hdown : Down ops listed) (hfuel : ((List.range ops.size).filter fun i => !listed.getD i false).length ≤ fuel + 1)
    (hdn : ∀ j, j < n → j ≠ e → listed.getD j false = true) (hel : listed.getD e false = false) (hpn : ∀ j, j ∈ predsAt ops n → listed.getD j false = true) (h : wpList P ops Q (s :: o :: ops.toList.drop (n + 1)) a w) : wpOp P ops Q n (wpAny P .any ops Q fuel (listed.setIfInBounds n true)) a w := by
  have hcnt := count_two hn hen (htail n (Nat.le_refl _)) hel htail
  have hnl : n < listed.size := by omega
  obtain ⟨f, rfl⟩ : ∃ f, fuel = f + 1 := ⟨fuel - 1, by omega⟩
  have hg1 : ∀ j, (listed.setIfInBounds n true).getD j false = if j = n then true else listed.getD j false := fun j => getD_set _ _ _ hnl
  have step2 : ∀ a w, wpList P ops Q (o :: ops.toList.drop (n + 1)) a w → wpAny P .any ops Q (f + 1) (listed.setIfInBounds n true) a w := by
    intro a w h
    have hsz' : (listed.setIfInBounds n true).size = ops.size := by simpa using hsz
    refine ⟨fun hr => ?_, fun i hi => ?_⟩
    · have := some_ready hc hsz' hr e (by omega)
      rw [hg1, if_neg (by omega), hel] at this
      cases this
    · obtain ⟨h1, h2, h3⟩ := (ready_iff hsz').1 hi
      have hie : i = e := by
        rcases Nat.lt_or_ge i n with hlt | hge
        · by_cases hie : i = e
          · exact hie
          · rw [hg1, if_neg (by omega), hdn i hlt hie] at h2
            cases h2
        · rcases Nat.lt_or_eq_of_le hge with hgt | heq
          · exfalso
            have hd' : Down ops (listed.setIfInBounds n true) := by
              intro k hk j hj
              rw [hg1] at hk ⊢
              by_cases hjn : j = n
              · rw [if_pos hjn]
              · rw [if_neg hjn]
                by_cases hkn : k = n
                · subst hkn
                  have hjk := hc.back k hn j hj
                  by_cases hje : j = e
                  · subst hje
                    exact hpn j hj
                  · exact hdn j hjk hje
                · rw [if_neg hkn] at hk
                  exact hdown k hk j hj
            have := reach_done hd' 5 i e h3 (hc.forced i h1 hgt e (by omega))
            rw [hg1, if_neg (by omega), hel] at this
            cases this
          · subst heq
            rw [hg1, if_pos rfl] at h2
            cases h2
      subst hie
      unfold wpOp
      rw [ho]
      simp only
      unfold wpList at h
      rw [if_pos (by simp [Region.wanted, hgo])] at h ⊢
      have hnext : ∀ a w, wpList P ops Q (ops.toList.drop (n + 1)) a w → wpAny P .any ops Q f ((listed.setIfInBounds n true).setIfInBounds i true) a w := by
        intro a w h
        refine tail_any hc f (n + 1) _ a w (by simpa using hsz) (by omega) (by omega) (by omega) (fun k hk => ?_) h
        rw [getD_set _ _ _ (by simp; omega), hg1]
        by_cases hki : k = i
        · rw [if_pos hki]; simp; omega
        · rw [if_neg hki]
          by_cases hkn : k = n
          · rw [if_pos hkn]; simp; omega
          · rw [if_neg hkn]
            rcases Nat.lt_or_ge k n with hlt | hge
            · rw [hdn k hlt hki]; simp; omega
            · rw [htail k hge]; simp; omega
      rcases h with h | h
      · exact .inl (Oper.wp_mono hnext h)
      · exact .inr h
  unfold wpOp
  rw [hs]
  simp only
  unfold wpList at h
  rw [if_pos (by simp [Region.wanted, hgs])] at h ⊢
  rcases h with h | h
  · exact .inl (Oper.wp_mono step2 h)
  · exact .inr h

theorem flow_any (hE : E.Ok P) {ops : Array Oper} {Q : Exit → Act → World → Prop} {st : St} {n : Nat} {Kf : List Ent → Prop} (hfit : fits nt ops.toList = true) (hc : Chk ops n) (hdist : distinct ((ops.toList.take n).map fun o => o.dst) = true)
    {a : Act} {w : World} {bs : An} (hh : Has S X w0 nt st a w bs) (h : flowOps E st (dsOf (ops.toList.take n)) (dstOf ops) 0 (ops.toList.take n) [] Kf)
    (htl2 : ∀ RS, Kf RS → ∀ a w bs', Has S X w0 nt (settle RS st) a w bs' → wpList P ops Q (ops.toList.drop n) a w)
    (hlate : ∀ RS, Kf RS → (∀ i d x, (i, d, x) ∈ RS → i < n ∧ ∃ o, ops[i]? = some o ∧ o.dst = some d) → (RS.map fun e => e.1).Nodup → Entries (dsOf (ops.toList.take n)) nt RS → (∀ d, d ∈ dsOf (ops.toList.take n) → ∃ i x, (i, d, x) ∈ RS) →
      ∀ (fuel : Nat) (listed : Array Bool) (a : Act) (w' : World), listed.size = ops.size → (∀ i, n ≤ i → listed.getD i false = false) → Down ops listed → (((List.range ops.size).filter fun i => !listed.getD i false).length ≤ fuel + 1) →
      FI S X w0 nt bs st (dsOf (ops.toList.take n)) w.heap.size RS listed a w' → n ∈ Region.ready .any ops listed → ¬ (∀ i, i < n → listed.getD i false = true) → wpOp P ops Q n (wpAny P .any ops Q fuel (listed.setIfInBounds n true)) a w') :
    wpAny P .any ops Q ops.size (Array.replicate ops.size false) a { w with drawn := w.drawn + 1 } := by
  have hdst : ∀ j d, dstOf ops j = some d → d < nt := by
    intro j d hj
    unfold dstOf at hj
    cases ho : ops[j]? with
    | none => rw [ho] at hj; cases hj
    | some o =>
      rw [ho] at hj
      simp only [Option.bind_some] at hj
      have hm : o ∈ ops.toList := by simpa using Array.mem_of_getElem? ho
      have := (List.all_eq_true.1 hfit) o hm
      rw [hj] at this
      exact Nat.le_of_ble_eq_true this
  have htl : (ops.toList.take n).length = n := by have := hc.le; simp; omega
  obtain ⟨RS, hKRS, hidx, hall⟩ := flowOps_steps (P := P) (nt := nt) (bs := bs) hE hdst (ops.toList.take n) 0 [] _ (fun k => by
    rw [Nat.zero_add, List.getElem?_take]
    split
    · exact .inr (by simp)
    · exact .inl rfl) h
  rw [List.append_nil] at hKRS
  simp only [List.append_nil] at hall
  rw [htl] at hidx
  -- the entries
  have hmemN : ∀ i d x, (i, d, x) ∈ RS → i < n := by
    intro i d x hm
    have : i ∈ RS.map (fun e => e.1) := List.mem_map.2 ⟨_, hm, rfl⟩
    rw [hidx] at this
    simp at this
    omega
  have hhas : ∀ i, i < n → ∃ d x, (i, d, x) ∈ RS := by
    intro i hi
    have : i ∈ RS.map (fun e => e.1) := by rw [hidx]; simp; omega
    obtain ⟨⟨j, d, x⟩, hm, rfl⟩ := List.mem_map.1 this
    exact ⟨d, x, hm⟩
  have hnodup : (RS.map fun e => e.1).Nodup := by rw [hidx]; exact (List.reverse_perm _).nodup_iff.2 List.nodup_range'
  have hopd : ∀ i d x, (i, d, x) ∈ RS → ∃ o, ops[i]? = some o ∧ o.dst = some d := fun i d x hm => by
    obtain ⟨o, h1, h2, _⟩ := hall _ hm
    exact ⟨o, h1, h2⟩
  have hent : Entries (dsOf (ops.toList.take n)) nt RS := by
    refine ⟨fun i d x d' x' h1 h2 => ?_, fun i d x i' x' h1 h2 => ?_, fun i d x h1 => ?_⟩
    · have : ∀ (l : List Ent), (l.map fun e => e.1).Nodup → (i, d, x) ∈ l → (i, d', x') ∈ l → d = d' ∧ x = x' := by
        intro l
        induction l with
        | nil => intro _ h _; cases h
        | cons e l ih =>
          intro hnd h1 h2
          simp only [List.map_cons, List.nodup_cons] at hnd
          rcases List.mem_cons.1 h1 with rfl | g1
          · rcases List.mem_cons.1 h2 with h2 | h2
            · injection h2 with _ h2
              injection h2 with h2 h3
              exact ⟨h2.symm, h3.symm⟩
            · exact absurd (List.mem_map.2 ⟨(i, d', x'), h2, rfl⟩) hnd.1
          · rcases List.mem_cons.1 h2 with rfl | g2
            · exact absurd (List.mem_map.2 ⟨(i, d, x), g1, rfl⟩ : i ∈ l.map fun e => e.1) hnd.1
            · exact ih hnd.2 g1 g2
      exact this RS hnodup h1 h2
    · obtain ⟨o1, ho1, hd1⟩ := hopd i d x h1
      obtain ⟨o2, ho2, hd2⟩ := hopd i' d x' h2
      have e1 : ((ops.toList.take n).map fun o => o.dst)[i]? = some (some d) := by
        rw [List.getElem?_map, List.getElem?_take, if_pos (hmemN _ _ _ h1)]
        simp [ho1, hd1]
      have e2 : ((ops.toList.take n).map fun o => o.dst)[i']? = some (some d) := by
        rw [List.getElem?_map, List.getElem?_take, if_pos (hmemN _ _ _ h2)]
        simp [ho2, hd2]
      exact distinct_some hdist e1 e2
    · obtain ⟨o, ho, hd⟩ := hopd i d x h1
      refine ⟨?_, hdst i d (by unfold dstOf; rw [ho]; exact hd)⟩
      unfold dsOf
      rw [List.mem_filterMap]
      refine ⟨o, ?_, hd⟩
      refine List.mem_of_getElem? (i := i) ?_
      rw [List.getElem?_take, if_pos (hmemN _ _ _ h1)]
      simpa using ho
  have hds : ∀ d, d ∈ dsOf (ops.toList.take n) → ∃ i x, (i, d, x) ∈ RS := by
    intro d hd
    unfold dsOf at hd
    rw [List.mem_filterMap] at hd
    obtain ⟨o, ho, hod⟩ := hd
    obtain ⟨i, hi⟩ := List.getElem?_of_mem ho
    rw [List.getElem?_take] at hi
    split at hi
    · rename_i hin
      obtain ⟨d', x, hm⟩ := hhas i hin
      obtain ⟨o', ho', hd'⟩ := hopd i d' x hm
      have : o = o' := by
        have hi' : ops[i]? = some o := by simpa using hi
        rw [ho'] at hi'
        injection hi' with hi'
        exact hi'.symm
      subst this
      rw [hod] at hd'
      injection hd' with hd'
      subst hd'
      exact ⟨i, x, hm⟩
    · cases hi
  -- the flow
  have flow : ∀ (fuel : Nat) (listed : Array Bool) (a : Act) (w' : World), listed.size = ops.size → (∀ i, n ≤ i → listed.getD i false = false) → Down ops listed → (((List.range ops.size).filter fun i => !listed.getD i false).length ≤ fuel) →
      FI S X w0 nt bs st (dsOf (ops.toList.take n)) w.heap.size RS listed a w' → wpAny P .any ops Q fuel listed a w' := by
    intro fuel
    induction fuel with
    | zero =>
      intro listed a w' hsz htail hdown hfuel hF
      have hnil : ((List.range ops.size).filter fun i => !listed.getD i false) = [] := List.eq_nil_of_length_eq_zero (by omega)
      have hdone : ∀ i, i < ops.size → listed.getD i false = true := by
        intro i hi
        cases hl : listed.getD i false with
        | true => rfl
        | false =>
          have : i ∈ ((List.range ops.size).filter fun i => !listed.getD i false) := by
            rw [List.mem_filter, List.mem_range]; exact ⟨hi, by rw [hl]; rfl⟩
          rw [hnil] at this
          cases this
      have hns : ops.size ≤ n := by
        rcases Nat.lt_or_ge n ops.size with hlt | hge
        · have h1 := hdone n hlt
          rw [htail n (Nat.le_refl _)] at h1
          cases h1
        · exact hge
      obtain ⟨bs', hHas⟩ := hF.settled hh.xs hh.nodup hh.new hh.rnew hh.rdist hh.plain (fun i d x hm => hdone i (Nat.lt_of_lt_of_le (hmemN i d x hm) hc.le)) hds hnodup
      have hwp : wpList P ops Q (ops.toList.drop n) a w' := htl2 RS hKRS a w' bs' hHas
      have hne : n = ops.size := Nat.le_antisymm hc.le hns
      refine tail_any hc 0 n listed a w' hsz (Nat.le_refl _) hc.le (by omega) (fun i hi => ⟨fun _ => by omega, fun _ => hdone i hi⟩) hwp
    | succ fuel ih =>
      intro listed a w' hsz htail hdown hfuel hF
      by_cases hdone : ∀ i, i < n → listed.getD i false = true
      · obtain ⟨bs', hHas⟩ := hF.settled hh.xs hh.nodup hh.new hh.rnew hh.rdist hh.plain (fun i d x hm => hdone i (hmemN i d x hm)) hds hnodup
        have hwp : wpList P ops Q (ops.toList.drop n) a w' := htl2 RS hKRS a w' bs' hHas
        refine tail_any hc (fuel + 1) n listed a w' hsz (Nat.le_refl _) hc.le ?_ (fun i hi => ⟨fun hl => ?_, fun hl => hdone i hl⟩) hwp
        · have e : ((List.range ops.size).filter fun i => !listed.getD i false).length ≥ ops.size - n := by
            have hsub : (List.range' n (ops.size - n)).Sublist ((List.range ops.size).filter fun i => !listed.getD i false) := by
              have e1 : List.range' n (ops.size - n) = (List.range' n (ops.size - n)).filter fun i => !listed.getD i false := by
                rw [List.filter_eq_self.2]
                intro i hi
                simp only [List.mem_range'_1] at hi
                rw [htail i hi.1]
                rfl
              rw [e1]
              refine List.Sublist.filter _ ?_
              rw [List.range_eq_range']
              have : List.range' 0 ops.size = List.range' 0 n ++ List.range' n (ops.size - n) := by
                have := List.range'_append (s := 0) (m := n) (n := ops.size - n) (step := 1)
                simp only [Nat.zero_add, Nat.one_mul] at this
                rw [this]
                congr 1
                have := hc.le
                omega
              rw [this]
              exact List.sublist_append_right _ _
            have := hsub.length_le
            simpa using this
          omega
        · rcases Nat.lt_or_ge i n with hlt | hge
          · exact hlt
          · rw [htail i hge] at hl; cases hl
      · refine ⟨fun hr => ?_, fun i hi => ?_⟩
        · exact absurd (fun i hi => some_ready hc hsz hr i (Nat.lt_of_lt_of_le hi hc.le)) hdone
        · obtain ⟨h1, h2, h3⟩ := (ready_iff hsz).1 hi
          rcases Nat.lt_or_ge i n with hin | hge
          case inr =>
            rcases Nat.lt_or_eq_of_le hge with hgt | heq
            · exfalso
              apply hdone
              intro j hj
              exact reach_done hdown 5 i j h3 (hc.forced i h1 hgt j (by omega))
            · subst heq
              exact hlate RS hKRS (fun i d x hm => ⟨hmemN i d x hm, hopd i d x hm⟩) hnodup hent hds fuel listed a w' hsz htail hdown hfuel hF hi hdone
          obtain ⟨d, x, hm⟩ := hhas i hin
          obtain ⟨o, ho, hod, hstep⟩ := hall _ hm
          simp only at ho hod hstep
          have hil : i < listed.size := by omega
          have hpo : preds o = predsAt ops i := by unfold predsAt; rw [ho]
          have hnext : ∀ a'' w'', FI S X w0 nt bs st (dsOf (ops.toList.take n)) w.heap.size RS (listed.setIfInBounds i true) a'' w'' → wpAny P .any ops Q fuel (listed.setIfInBounds i true) a'' w'' := by
            intro a'' w'' hF'
            refine ih _ a'' w'' (by simpa using hsz) (fun j hj => ?_) (hdown.set hil h3) ?_ hF'
            · rw [getD_set _ _ _ hil, if_neg (by omega)]; exact htail j hj
            · have hlt : ((List.range ops.size).filter fun j => !(listed.setIfInBounds i true).getD j false).length < ((List.range ops.size).filter fun j => !listed.getD j false).length := by
                have hsub : ∀ l : List Nat, ((l.filter fun j => !(listed.setIfInBounds i true).getD j false).length ≤ (l.filter fun j => !listed.getD j false).length) ∧ (i ∈ l → (l.filter fun j => !(listed.setIfInBounds i true).getD j false).length < (l.filter fun j => !listed.getD j false).length) := by
                  intro l
                  induction l with
                  | nil => exact ⟨Nat.le_refl _, fun h => by cases h⟩
                  | cons k l ihl =>
                    simp only [List.filter_cons]
                    by_cases hki : k = i
                    · subst hki
                      rw [getD_set _ _ _ hil, if_pos rfl, h2]
                      simp only [Bool.not_true, Bool.not_false, if_true, Bool.false_eq_true, if_false, List.length_cons]
                      exact ⟨by omega, fun _ => by omega⟩
                    · rw [getD_set _ _ _ hil, if_neg hki]
                      cases listed.getD k false with
                      | true =>
                        simp only [Bool.not_true, Bool.false_eq_true, if_false]
                        exact ⟨ihl.1, fun hm => ihl.2 ((List.mem_cons.1 hm).resolve_left (fun e => hki e.symm))⟩
                      | false =>
                        simp only [Bool.not_false, if_true, List.length_cons]
                        exact ⟨by omega, fun hm => by have := ihl.2 ((List.mem_cons.1 hm).resolve_left (fun e => hki e.symm)); omega⟩
                exact (hsub _).2 (List.mem_range.2 h1)
              omega
          refine hstep (Af S w0 bs st.bx.r RS listed a) a w' hF.boxes hF.slots hh.plain (fun j u y hj hjp _ => hF.done j u y hj (h3 j (by rw [← hpo]; exact hjp))) hF.size _ Q (fun hx hsm v w'' hv => ?_) (fun t cs us hx hus => ?_) (fun e l v w'' hx he hv hnw => ?_) (fun t hx hrow => ?_)
          · exact hnext _ _ (hF.step_val hent hil h2 hm hx (fun t e => by rw [e] at hsm; cases hsm) hv)
          · subst hx
            exact hnext _ _ (hF.step_fresh hent hil h2 hm hus)
          · subst hx
            exact hnext _ _ (hF.step_row hent hil h2 hm he hv hnw)
          · subst hx
            obtain ⟨j, y, hj, hjp⟩ := hrow
            exact hnext _ _ (hF.step_val hent hil h2 hm rfl (fun t' e => by injection e with e; subst e; exact ⟨rfl, j, y, hj, h3 j (by rw [← hpo]; exact hjp)⟩) ⟨Ext.refl w', trivial⟩)
  refine (flow ops.size _ a _ (by simp) (fun i _ => ?_) (fun i hi => ?_) ?_ ?_)
  · simp only [Array.getD_eq_getD_getElem?, Array.getElem?_replicate]; split <;> rfl
  · simp only [Array.getD_eq_getD_getElem?, Array.getElem?_replicate] at hi; split at hi <;> cases hi
  · exact Nat.le_trans (List.length_filter_le _ _) (by simp)
  · have hfalse : ∀ i, (Array.replicate ops.size false).getD i false = false := fun i => by
      simp only [Array.getD_eq_getD_getElem?, Array.getElem?_replicate]; split <;> rfl
    have hA : ∀ b, Al S w0 bs st.bx.r b → b < w.heap.size → Af S w0 bs st.bx.r RS (Array.replicate ops.size false) a b := fun b hb _ => ⟨hb, fun i d x _ hl => by rw [hfalse] at hl; cases hl⟩
    exact
      { ext := hh.ext.trans (Ext.draw w)
        lo_le := Nat.le_refl _
        lo_ge := hh.ext.size
        old := fun b hb => hh.boxes.lt hb
        rold := fun k r v b hr hv hd ho => hh.boxes.rlt hr hv hd ho
        boxes := hh.boxes.ext (Ext.draw w) hA
        slots := fun t _ => (hh.slots t).ext (Ext.draw w) hA
        done := fun i d x _ hl => by rw [hfalse] at hl; cases hl
        fresh := fun i d x _ hl => by rw [hfalse] at hl; cases hl
        dist := fun i d x i' d' x' _ _ hl => by rw [hfalse] at hl; cases hl
        copy := fun i d t _ hl => by rw [hfalse] at hl; cases hl
        size := hh.size
        defers := hh.defers }


theorem drawOps_sound (hE : E.Ok P) (hmix : P.follows .mixedOrders = true) {id : Nat} {ops : Array Oper} {Q : Exit → Act → World → Prop} {st : St} {K : St → Prop} (hfit : fits nt ops.toList = true) (h : drawOps E ops st K)
    {a : Act} {w : World} {bs : An} (hh0 : Has S X w0 nt st a w bs) (hK : ∀ st' a' w' bs', K st' → Has S X w0 nt st' a' w' bs' → Q .normal a' w') : (Code.region id ops true).wp P Q a w := by
  obtain ⟨st', h, hh⟩ : ∃ st', drawOps1 E ops st' K ∧ Has S X w0 nt st' a w bs := by
    unfold drawOps at h
    rw [withS_eq] at h
    split at h
    · rename_i hr
      refine ⟨st, ?_, hh0⟩
      have e : st = ⟨st.sl, ⟨st.bx.b, []⟩⟩ := by
        obtain ⟨sl, b, r⟩ := st
        simp only at hr
        rw [hr]
      rw [e]
      exact h
    · rename_i q r hr
      rw [frzAllK_eq] at h
      have e : (⟨st.sl, ⟨st.bx.b, q :: r⟩⟩ : St) = st := by
        obtain ⟨sl, b, r'⟩ := st
        simp only at hr
        rw [hr]
      rw [e] at h
      exact ⟨_, h, hh0.frz _⟩
  clear hh0
  revert h hh
  generalize st' = st
  intro h hh
  have hdst : ∀ j d, dstOf ops j = some d → d < nt := by
    intro j d hj
    unfold dstOf at hj
    cases ho : ops[j]? with
    | none => rw [ho] at hj; cases hj
    | some o =>
      rw [ho] at hj
      simp only [Option.bind_some] at hj
      have hm : o ∈ ops.toList := by simpa using Array.mem_of_getElem? ho
      have := (List.all_eq_true.1 hfit) o hm
      rw [hj] at this
      exact Nat.le_of_ble_eq_true this
  have hfd : ∀ n, fits nt (ops.toList.drop n) = true := fun n => List.all_eq_true.2 (fun o ho => (List.all_eq_true.1 hfit) o (List.mem_of_mem_drop ho))
  have hcase : (∃ n, flowChk ops n = true ∧ drawAt E ops n st K) ∨ (∃ n e, flowChkL ops n e = true ∧ drawAtL E ops n e st K) ∨ drawX E ops st K := by
    unfold drawOps1 at h
    split at h
    · exact .inl ⟨_, ‹_›, h⟩
    · split at h
      · exact .inl ⟨_, ‹_›, h⟩
      · split at h
        · exact .inr (.inl ⟨_, _, ‹_›, h⟩)
        · exact .inr (.inr h)
  rcases hcase with ⟨n, hchk, h⟩ | ⟨n, e, hchk, h⟩ | hx
  · obtain ⟨hc, hdist, hN⟩ := chk_of hchk
    unfold drawAt at h
    rw [natsK_eq] at h
    simp only [settleK_eq] at h
    refine wp_region_any hmix (flow_any hE hfit hc hdist hh h (fun RS hRS a w bs' hHas => seqOps_sound hE _ _ K (hfd n) hRS a w bs' hHas hK hdst) ?_)
    intro RS _ _ _ _ _ fuel listed a' w' hsz htail hdown _ _ hi hdone
    exfalso
    obtain ⟨h1, h2, h3⟩ := (ready_iff hsz).1 hi
    exact hdone (fun j hj => reach_done hdown 5 n j h3 (hN h1 j hj))
  · obtain ⟨hc, hdist, hns, hen, hN⟩ := chkL_of hchk
    unfold drawAtL at h
    split at h
    · rename_i s o hs ho
      split at h
      · rename_i d hgs hgo hod
        rw [natsK_eq] at h
        simp only [settleK_eq, withS_eq, dropK_eq] at h
        refine wp_region_any hmix (flow_any hE hfit hc hdist hh h (fun RS hRS a w bs' hHas => seqOps_sound hE _ _ _ (hfd n) hRS a w bs' hHas (fun st' a' w' bs' hq hh' => hK _ _ _ _ hq.2 hh') hdst) ?_)
        intro RS hRS hRmem hnodup hent hds fuel listed a' w' hsz htail hdown hfuel hF hi hdone
        obtain ⟨stm, hB, hKm⟩ := seqOps_some hRS
        obtain ⟨h1, h2, h3⟩ := (ready_iff hsz).1 hi
        have hdn : ∀ j, j < n → j ≠ e → listed.getD j false = true := fun j hj hje => reach_done hdown 5 n j h3 (hN j hj hje)
        have hel : listed.getD e false = false := by
          cases hl : listed.getD e false with
          | false => rfl
          | true => exact absurd (fun j hj => by
              by_cases hje : j = e
              · rw [hje]; exact hl
              · exact hdn j hj hje) hdone
        obtain ⟨bs', hHas⟩ := late_has hh hF hRmem hnodup hent hds ho hod hdn hel
        have hfB : fits nt (s :: o :: ops.toList.drop (n + 1)) = true := by
          refine List.all_eq_true.2 (fun x hx => (List.all_eq_true.1 hfit) x ?_)
          rcases List.mem_cons.1 hx with rfl | hx
          · simpa using Array.mem_of_getElem? hs
          · rcases List.mem_cons.1 hx with rfl | hx
            · simpa using Array.mem_of_getElem? ho
            · exact List.mem_of_mem_drop hx
        have hwp : wpList P ops Q (s :: o :: ops.toList.drop (n + 1)) a' w' := seqOps_sound hE _ _ _ hfB hB a' w' bs' hHas (fun st' a' w' bs' hq hh' => hK _ _ _ _ hKm (hh'.alike hq)) hdst
        exact late_any hc hns hen hs ho hgs hgo hsz htail hdown hfuel hdn hel h3 hwp
      · exact h.elim
    · exact h.elim
  · obtain ⟨stm, hexp, hKm⟩ := hx
    refine wp_region_any hmix (expl_sound hE hfit (fun st' a' w' bs' hl hh' => ?_) ops.size _ [] st a _ bs (by simp) (fun i => ?_) hexp hh.drawn)
    · exact hK _ _ _ _ hKm (hh'.weaken hl)
    · simp only [Array.getD_eq_getD_getElem?, Array.getElem?_replicate]; split <;> rfl

end
end Go.Gm
