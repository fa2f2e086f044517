/-
  The frame of all proofs of this seat, part I: a region whose order is open. Plain theorems; no condition.
-/
import Derived.Test.YtihmifpdnipdmaaCoreH
set_option linter.all false
namespace Go.Gm
open Go.RowKit (Below)

section
variable {P : Program} {E : Env} {S : Nat → Prop} {w0 : World} {nt : Nat} {bs : An}

/-- Blocks that are neither a box nor just made. -/
def Af (S : Nat → Prop) (w0 : World) (bs : An) (rws : List Rw) (RS : List Ent) (listed : Array Bool) (a : Act) (b : Nat) : Prop :=
  Al S w0 bs rws b ∧ ∀ i d x, (i, d, x) ∈ RS → listed.getD i false = true → x.isFresh = true → a.tmps.getD d undef ≠ .pointer (some ⟨b, 0, none⟩)

/-- What holds while the operations come in whatever order. -/
structure FI (S : Nat → Prop) (w0 : World) (nt : Nat) (bs : An) (st : St) (ds : List Nat) (lo : Nat) (RS : List Ent) (listed : Array Bool) (a : Act) (w : World) : Prop where
  ext : Ext w0 w
  lo_le : lo ≤ w.heap.size
  lo_ge : w0.heap.size ≤ lo
  old : ∀ b, b ∈ bs.b → b < lo
  rold : ∀ (k : Nat) r v b, st.bx.r[k]? = some r → bs.v[k]? = some v → r.isDead = false → v.ownBlock = some b → b < lo
  boxes : Boxes (Af S w0 bs st.bx.r RS listed a) w bs st.bx
  slots : ∀ t, t ∉ ds → (look t st.sl).mean (Af S w0 bs st.bx.r RS listed a) bs w (a.tmps.getD t undef)
  done : ∀ i d x, (i, d, x) ∈ RS → listed.getD i false = true → x.mean (Af S w0 bs st.bx.r RS listed a) bs w (a.tmps.getD d undef)
  fresh : ∀ i d x, (i, d, x) ∈ RS → listed.getD i false = true → x.isFresh = true → ∃ b, a.tmps.getD d undef = .pointer (some ⟨b, 0, none⟩) ∧ lo ≤ b ∧ b < w.heap.size
  dist : ∀ i d x i' d' x', (i, d, x) ∈ RS → (i', d', x') ∈ RS → listed.getD i false = true → listed.getD i' false = true → x.isFresh = true → x'.isFresh = true → i ≠ i' → a.tmps.getD d undef ≠ a.tmps.getD d' undef
  size : a.tmps.size = nt
  defers : a.defers = []

/-- The entries are one for each operation, each with a slot of its own. -/
structure Entries (ds : List Nat) (nt : Nat) (RS : List Ent) : Prop where
  same : ∀ i d x d' x', (i, d, x) ∈ RS → (i, d', x') ∈ RS → d = d' ∧ x = x'
  apart : ∀ i d x i' x', (i, d, x) ∈ RS → (i', d, x') ∈ RS → i = i'
  mem : ∀ i d x, (i, d, x) ∈ RS → d ∈ ds ∧ d < nt

theorem FI.step_val {st : St} {ds : List Nat} {lo : Nat} {RS : List Ent} {listed : Array Bool} {a : Act} {w w' : World} (hent : Entries ds nt RS) (h : FI S w0 nt bs st ds lo RS listed a w) {i d : Nat} {x : AV} (hi : i < listed.size) (hm : (i, d, x) ∈ RS)
    (hx : x.isFresh = false) {v : Value} (hv : Fits (Af S w0 bs st.bx.r RS listed a) bs w x v w') : FI S w0 nt bs st ds lo RS (listed.setIfInBounds i true) (a.put (some d) v) w' := by
  obtain ⟨e, hv⟩ := hv
  have hd := (hent.mem i d x hm).2
  have hput : ∀ t, (a.put (some d) v).tmps.getD t undef = if t = d then v else a.tmps.getD t undef := fun t => getD_put a d t v (by rw [h.size]; exact hd)
  -- entries that are just made have not been touched
  have hold : ∀ j u y, (j, u, y) ∈ RS → (listed.setIfInBounds i true).getD j false = true → y.isFresh = true → listed.getD j false = true ∧ u ≠ d := by
    intro j u y hj hl hy
    rw [getD_set _ _ _ hi] at hl
    by_cases hji : j = i
    · subst hji
      have := (hent.same j u y d x hj hm).2
      rw [this, hx] at hy
      cases hy
    · rw [if_neg hji] at hl
      refine ⟨hl, fun hu => hji ?_⟩
      subst hu
      exact hent.apart j u y i x hj hm
  have hA : ∀ b, Or' (Af S w0 bs st.bx.r RS listed a) w b → Af S w0 bs st.bx.r RS (listed.setIfInBounds i true) (a.put (some d) v) b := by
    intro b hb
    have hal : Al S w0 bs st.bx.r b := by
      rcases hb with hb | hb
      · exact hb.1
      · refine ⟨.inr (Nat.le_trans h.ext.size hb), fun hmb => ?_, fun k r v hr hv hd ho => ?_⟩
        · have := h.boxes.lt hmb
          omega
        · have := h.boxes.rlt hr hv hd ho
          omega
    refine ⟨hal, fun j u y hj hl hy => ?_⟩
    obtain ⟨hl', hne⟩ := hold j u y hj hl hy
    rw [hput, if_neg hne]
    rcases hb with hb | hb
    · exact hb.2 j u y hj hl' hy
    · obtain ⟨c, hc1, hc2, hc3⟩ := h.fresh j u y hj hl' hy
      rw [hc1]
      intro e
      injection e with e
      injection e with e
      injection e with e
      omega
  have hA' : ∀ b, Af S w0 bs st.bx.r RS listed a b → b < w.heap.size → Af S w0 bs st.bx.r RS (listed.setIfInBounds i true) (a.put (some d) v) b := fun b hb _ => hA b (.inl hb)
  exact
    { ext := h.ext.trans e
      lo_le := Nat.le_trans h.lo_le e.size
      lo_ge := h.lo_ge
      old := h.old
      rold := h.rold
      boxes := h.boxes.ext e hA'
      slots := fun t ht => by
        have hne : t ≠ d := fun hh => ht (by rw [hh]; exact (hent.mem i d x hm).1)
        rw [hput, if_neg hne]
        exact (h.slots t ht).ext e hA'
      done := fun j u y hj hl => by
        rw [hput]
        by_cases hu : u = d
        · subst hu
          rw [if_pos rfl]
          have hji := hent.apart j u y i x hj hm
          subst hji
          rw [(hent.same j u y u x hj hm).2]
          exact hv.ext (Ext.refl w') fun b hb _ => hA b hb
        · rw [if_neg hu]
          rw [getD_set _ _ _ hi] at hl
          have hji : j ≠ i := fun hh => by subst hh; exact hu (hent.same j u y d x hj hm).1
          rw [if_neg hji] at hl
          exact (h.done j u y hj hl).ext e hA'
      fresh := fun j u y hj hl hy => by
        obtain ⟨hl', hne⟩ := hold j u y hj hl hy
        rw [hput, if_neg hne]
        obtain ⟨c, hc1, hc2, hc3⟩ := h.fresh j u y hj hl' hy
        exact ⟨c, hc1, hc2, Nat.lt_of_lt_of_le hc3 e.size⟩
      dist := fun j u y j' u' y' hj hj' hl hl' hy hy' hne => by
        obtain ⟨h1, h2⟩ := hold j u y hj hl hy
        obtain ⟨h3, h4⟩ := hold j' u' y' hj' hl' hy'
        rw [hput, hput, if_neg h2, if_neg h4]
        exact h.dist j u y j' u' y' hj hj' h1 h3 hy hy' hne
      size := by rw [put_size]; exact h.size
      defers := by rw [put_defers]; exact h.defers }

theorem FI.step_fresh {st : St} {ds : List Nat} {lo : Nat} {RS : List Ent} {listed : Array Bool} {a : Act} {w : World} (hent : Entries ds nt RS) (h : FI S w0 nt bs st ds lo RS listed a w) {i d : Nat} {t : TypeId} {cs : List CV} (hi : i < listed.size) (hm : (i, d, .fresh t cs) ∈ RS)
    {us : List Value} (hus : All2 (CV.mean (Af S w0 bs st.bx.r RS listed a) w) cs us) :
    FI S w0 nt bs st ds lo RS (listed.setIfInBounds i true) (a.put (some d) (.pointer (some ⟨w.heap.size, 0, none⟩))) (w.alloc (.cells us.toArray t)) := by
  have e := Ext.alloc w (.cells us.toArray t)
  have hd := (hent.mem i d _ hm).2
  have hput : ∀ t, (a.put (some d) (.pointer (some ⟨w.heap.size, 0, none⟩))).tmps.getD t undef = if t = d then .pointer (some ⟨w.heap.size, 0, none⟩) else a.tmps.getD t undef := fun t => getD_put a d t _ (by rw [h.size]; exact hd)
  have hold : ∀ j u y, (j, u, y) ∈ RS → (listed.setIfInBounds i true).getD j false = true → j ≠ i → listed.getD j false = true ∧ u ≠ d := by
    intro j u y hj hl hji
    rw [getD_set _ _ _ hi, if_neg hji] at hl
    refine ⟨hl, fun hu => hji ?_⟩
    subst hu
    exact hent.apart j u y i _ hj hm
  have hA : ∀ b, Af S w0 bs st.bx.r RS listed a b → b < w.heap.size → Af S w0 bs st.bx.r RS (listed.setIfInBounds i true) (a.put (some d) (.pointer (some ⟨w.heap.size, 0, none⟩))) b := by
    intro b hb hlt
    refine ⟨hb.1, fun j u y hj hl hy => ?_⟩
    by_cases hji : j = i
    · subst hji
      rw [(hent.same j u y d _ hj hm).1, hput, if_pos rfl]
      intro e
      injection e with e
      injection e with e
      injection e with e
      omega
    · obtain ⟨hl', hne⟩ := hold j u y hj hl hji
      rw [hput, if_neg hne]
      exact hb.2 j u y hj hl' hy
  have hsz : (w.alloc (.cells us.toArray t)).heap.size = w.heap.size + 1 := by simp
  exact
    { ext := h.ext.trans e
      lo_le := Nat.le_trans h.lo_le e.size
      lo_ge := h.lo_ge
      old := h.old
      rold := h.rold
      boxes := h.boxes.ext e hA
      slots := fun t ht => by
        have hne : t ≠ d := fun hh => ht (by rw [hh]; exact (hent.mem i d _ hm).1)
        rw [hput, if_neg hne]
        exact (h.slots t ht).ext e hA
      done := fun j u y hj hl => by
        by_cases hji : j = i
        · subst hji
          obtain ⟨rfl, rfl⟩ := hent.same j u y d _ hj hm
          rw [hput, if_pos rfl]
          exact ⟨w.heap.size, us, rfl, heap_alloc_new w _, CV.all_keep hus (e.keepsTo hA)⟩
        · obtain ⟨hl', hne⟩ := hold j u y hj hl hji
          rw [hput, if_neg hne]
          exact (h.done j u y hj hl').ext e hA
      fresh := fun j u y hj hl hy => by
        by_cases hji : j = i
        · subst hji
          rw [(hent.same j u y d _ hj hm).1, hput, if_pos rfl]
          exact ⟨w.heap.size, rfl, h.lo_le, by rw [hsz]; omega⟩
        · obtain ⟨hl', hne⟩ := hold j u y hj hl hji
          rw [hput, if_neg hne]
          obtain ⟨c, hc1, hc2, hc3⟩ := h.fresh j u y hj hl' hy
          exact ⟨c, hc1, hc2, by rw [hsz]; omega⟩
      dist := fun j u y j' u' y' hj hj' hl hl' hy hy' hne => by
        by_cases hji : j = i
        · subst hji
          obtain ⟨h3, h4⟩ := hold j' u' y' hj' hl' (fun hh => hne hh.symm)
          rw [(hent.same j u y d _ hj hm).1, hput, hput, if_pos rfl, if_neg h4]
          obtain ⟨c, hc1, hc2, hc3⟩ := h.fresh j' u' y' hj' h3 hy'
          rw [hc1]
          intro e
          injection e with e
          injection e with e
          injection e with e
          omega
        · obtain ⟨h1, h2⟩ := hold j u y hj hl hji
          by_cases hji' : j' = i
          · subst hji'
            rw [(hent.same j' u' y' d _ hj' hm).1, hput, hput, if_pos rfl, if_neg h2]
            obtain ⟨c, hc1, hc2, hc3⟩ := h.fresh j u y hj h1 hy
            rw [hc1]
            intro e
            injection e with e
            injection e with e
            injection e with e
            omega
          · obtain ⟨h3, h4⟩ := hold j' u' y' hj' hl' hji'
            rw [hput, hput, if_neg h2, if_neg h4]
            exact h.dist j u y j' u' y' hj hj' h1 h3 hy hy' hne
      size := by rw [put_size]; exact h.size
      defers := by rw [put_defers]; exact h.defers }

/-- All is done: the boxes that were made are boxes of the call. -/
theorem FI.settled {st : St} {ds : List Nat} {lo : Nat} {RS : List Ent} {listed : Array Bool} {a : Act} {w : World} (h : FI S w0 nt bs st ds lo RS listed a w) (hnd : bs.b.Nodup) (hnew : ∀ b, b ∈ bs.b → w0.heap.size ≤ b)
    (hrnew : ∀ (k : Nat) r v b, st.bx.r[k]? = some r → bs.v[k]? = some v → r.isDead = false → v.ownBlock = some b → w0.heap.size ≤ b ∧ b ∉ bs.b)
    (hrdist : ∀ (k k' : Nat) r r' v v' b, st.bx.r[k]? = some r → st.bx.r[k']? = some r' → bs.v[k]? = some v → bs.v[k']? = some v' → r.isDead = false → r'.isDead = false → k ≠ k' → v.ownBlock = some b → v'.ownBlock ≠ some b) (hpl : ∀ t, (look t st.sl).isFresh = false)
    (hall : ∀ i d x, (i, d, x) ∈ RS → listed.getD i false = true) (hds : ∀ d, d ∈ ds → ∃ i x, (i, d, x) ∈ RS) (hidx : (RS.map fun e => e.1).Nodup) : ∃ bs', Has S w0 nt (settle RS st) a w bs' := by
  -- by the entries, one behind the other
  have key : ∀ (l : List Ent), (l.map fun e => e.1).Nodup → (∀ e, e ∈ l → e ∈ RS) → ∃ cs : List Nat, (∀ b, b ∈ cs → ∃ i d x, (i, d, x) ∈ l ∧ x.isFresh = true ∧ a.tmps.getD d undef = .pointer (some ⟨b, 0, none⟩)) ∧ cs.Nodup ∧
      Boxes (Af S w0 bs st.bx.r RS listed a) w ⟨bs.b ++ cs, bs.v⟩ (settle l st).bx ∧ (settle l st).bx.r = st.bx.r ∧
      (∀ t, (t ∉ ds ∨ ∃ i x, (i, t, x) ∈ l) → (look t (settle l st).sl).mean (Af S w0 bs st.bx.r RS listed a) ⟨bs.b ++ cs, bs.v⟩ w (a.tmps.getD t undef)) ∧
      (∀ t, (look t (settle l st).sl).isFresh = false) := by
    intro l
    induction l with
    | nil =>
      intro _ _
      refine ⟨[], by simp, by simp, by simpa [settle] using h.boxes, rfl, fun t ht => ?_, by simpa [settle] using hpl⟩
      rcases ht with ht | ⟨i, x, hx⟩
      · simpa [settle] using h.slots t ht
      · cases hx
    | cons e l ih =>
      intro hnod hsub
      obtain ⟨i, d, x⟩ := e
      simp only [List.map_cons, List.nodup_cons] at hnod
      obtain ⟨cs, h1, h2, h3, h3r, h4, h5⟩ := ih hnod.2 (fun e he => hsub e (List.mem_cons_of_mem _ he))
      have hm : (i, d, x) ∈ RS := hsub _ (List.mem_cons_self ..)
      have hmean := h.done i d x hm (hall i d x hm)
      have hlook : ∀ (z : AV) (sl : List (Nat × AV)) (cs' : List Nat), z.mean (Af S w0 bs st.bx.r RS listed a) ⟨bs.b ++ cs', bs.v⟩ w (a.tmps.getD d undef) → (∀ t, (t ∉ ds ∨ ∃ i x, (i, t, x) ∈ l) → (look t sl).mean (Af S w0 bs st.bx.r RS listed a) ⟨bs.b ++ cs', bs.v⟩ w (a.tmps.getD t undef)) →
          ∀ t, (t ∉ ds ∨ ∃ j y, (j, t, y) ∈ (i, d, x) :: l) → (look t ((d, z) :: sl)).mean (Af S w0 bs st.bx.r RS listed a) ⟨bs.b ++ cs', bs.v⟩ w (a.tmps.getD t undef) := by
        intro z sl cs' hz hsl t ht
        unfold look
        cases hb : Nat.beq t d with
        | true => have := Nat.eq_of_beq_eq_true hb; subst this; exact hz
        | false =>
          refine hsl t ?_
          rcases ht with ht | ⟨j, y, hy⟩
          · exact .inl ht
          · rcases List.mem_cons.1 hy with hy | hy
            · injection hy with _ hy
              injection hy with hy _
              subst hy
              rw [Nat.beq_refl] at hb
              cases hb
            · exact .inr ⟨j, y, hy⟩
      have hlookf : ∀ (z : AV) (sl : List (Nat × AV)), z.isFresh = false → (∀ t, (look t sl).isFresh = false) → ∀ t, (look t ((d, z) :: sl)).isFresh = false := by
        intro z sl hz hsl t
        unfold look
        cases Nat.beq t d with
        | true => exact hz
        | false => exact hsl t
      cases hx : x.isFresh with
      | false =>
        have es : settle ((i, d, x) :: l) st = ⟨(d, x) :: (settle l st).sl, (settle l st).bx⟩ := by
          cases x <;> first | rfl | cases hx
        rw [es]
        have hmore := hmean.more cs []
        rw [List.append_nil] at hmore
        refine ⟨cs, fun b hb => ?_, h2, h3, h3r, hlook x _ cs hmore h4, hlookf x _ hx h5⟩
        obtain ⟨j, u, y, hj, r⟩ := h1 b hb
        exact ⟨j, u, y, List.mem_cons_of_mem _ hj, r⟩
      | true =>
        cases x with
        | fresh ty vs =>
          obtain ⟨b, us, hb1, hb2, hb3⟩ := hmean
          have es : settle ((i, d, .fresh ty vs) :: l) st = ⟨(d, .ptr (settle l st).bx.b.length 0) :: (settle l st).sl, ⟨(settle l st).bx.b ++ [(ty, vs)], (settle l st).bx.r⟩⟩ := rfl
          rw [es]
          have hlen : (settle l st).bx.b.length = (bs.b ++ cs).length := h3.vars.length
          refine ⟨cs ++ [b], fun c hc => ?_, ?_, ?_, h3r, ?_, hlookf _ _ rfl h5⟩
          · rcases List.mem_append.1 hc with hc | hc
            · obtain ⟨j, u, y, hj, r⟩ := h1 c hc
              exact ⟨j, u, y, List.mem_cons_of_mem _ hj, r⟩
            · simp only [List.mem_singleton] at hc
              subst hc
              exact ⟨i, d, _, List.mem_cons_self .., rfl, hb1⟩
          · rw [List.nodup_append]
            refine ⟨h2, by simp, fun c hc c' hc' => ?_⟩
            simp only [List.mem_singleton] at hc'
            subst hc'
            obtain ⟨j, u, y, hj, hy, hu⟩ := h1 c hc
            have hjR := hsub _ (List.mem_cons_of_mem _ hj)
            have hne : j ≠ i := fun hh => hnod.1 (List.mem_map.2 ⟨_, hj, hh⟩)
            have := h.dist j u y i d _ hjR hm (hall _ _ _ hjR) (hall _ _ _ hm) hy rfl hne
            rw [hu, hb1] at this
            intro hcc
            subst hcc
            exact this rfl
          · rw [← List.append_assoc]
            exact ⟨h3.vars.append ⟨⟨us, hb2, hb3⟩, trivial⟩, h3.rows⟩
          · refine hlook _ _ (cs ++ [b]) ?_ (fun t ht => by
              have := (h4 t ht).more [b] []
              rw [List.append_nil] at this
              rw [← List.append_assoc]
              exact this)
            refine ⟨b, ?_, hb1⟩
            simp only
            rw [hlen, ← List.append_assoc]
            simp
        | _ => cases hx
  obtain ⟨cs, h1, h2, h3, h3r, h4, h5⟩ := key RS hidx (fun e he => he)
  have hcs : ∀ b, b ∈ cs → lo ≤ b := by
    intro b hb
    obtain ⟨i, d, x, hm, hx, hp⟩ := h1 b hb
    obtain ⟨c, hc1, hc2, _⟩ := h.fresh i d x hm (hall i d x hm) hx
    rw [hp] at hc1
    injection hc1 with hc1
    injection hc1 with hc1
    injection hc1 with hc1
    omega
  have hA : ∀ b, Af S w0 bs st.bx.r RS listed a b → b < w.heap.size → Al S w0 ⟨bs.b ++ cs, bs.v⟩ (settle RS st).bx.r b := fun b hb _ => ⟨hb.1.1, fun hm => by
    rcases List.mem_append.1 hm with hm | hm
    · exact hb.1.2.1 hm
    · obtain ⟨i, d, x, hmR, hx, hp⟩ := h1 b hm
      exact hb.2 i d x hmR (hall i d x hmR) hx hp, by rw [h3r]; exact hb.1.2.2⟩
  exact ⟨⟨bs.b ++ cs, bs.v⟩,
    { ext := h.ext
      boxes := h3.ext (Ext.refl w) hA
      nodup := by
        rw [List.nodup_append]
        exact ⟨hnd, h2, fun b hb c hc => by have := h.old b hb; have := hcs c hc; omega⟩
      new := fun b hb => by
        rcases List.mem_append.1 hb with hb | hb
        · exact hnew b hb
        · exact Nat.le_trans h.lo_ge (hcs b hb)
      rnew := by
        rw [h3r]
        intro k r v b hr hv hd ho
        obtain ⟨n1, n2⟩ := hrnew k r v b hr hv hd ho
        refine ⟨n1, fun hm => ?_⟩
        rcases List.mem_append.1 hm with hm | hm
        · exact n2 hm
        · have := hcs b hm
          have := h.rold k r v b hr hv hd ho
          omega
      rdist := by rw [h3r]; exact hrdist
      slots := fun t => by
        refine (h4 t ?_).ext (Ext.refl w) hA
        by_cases ht : t ∈ ds
        · exact .inr (hds t ht)
        · exact .inl ht
      plain := h5
      size := h.size
      defers := h.defers }⟩

end
end Go.Gm
