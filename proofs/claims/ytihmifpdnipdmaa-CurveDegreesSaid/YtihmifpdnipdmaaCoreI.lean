/-
  The frame of all proofs of this seat, part I: a region whose order is open. Plain theorems; no condition.
-/
import Derived.Test.YtihmifpdnipdmaaCoreH
set_option linter.all false
namespace Go.Gm
open Go.RowKit (Below)

section
variable {P : Program} {E : Env} {S X : Nat → Prop} {w0 : World} {nt : Nat} {bs : An}

/-- The block of a pointer or a slice. -/
def blkOf : Value → Option Nat
  | .pointer (some a) => some a.block
  | .slice (some a) _ _ => some a.block
  | _ => none
theorem blk_own {v : Value} {b : Nat} (h : v.ownBlock = some b) : blkOf v = some b := by
  cases v with
  | slice a _ _ => cases a with
    | none => cases h
    | some a => exact h
  | _ => cases h

/-- Blocks that are neither a box nor just made. -/
def Af (S : Nat → Prop) (w0 : World) (bs : An) (rws : List Rw) (RS : List Ent) (listed : Array Bool) (a : Act) (b : Nat) : Prop :=
  Al S w0 bs rws b ∧ ∀ i d x, (i, d, x) ∈ RS → listed.getD i false = true → x.isFresh = true → blkOf (a.tmps.getD d undef) ≠ some b

/-- What holds while the operations come in whatever order. -/
structure FI (S X : Nat → Prop) (w0 : World) (nt : Nat) (bs : An) (st : St) (ds : List Nat) (lo : Nat) (RS : List Ent) (listed : Array Bool) (a : Act) (w : World) : Prop where
  ext : ExtX X w0 w
  lo_le : lo ≤ w.heap.size
  lo_ge : w0.heap.size ≤ lo
  old : ∀ b, b ∈ bs.b → b < lo
  rold : ∀ (k : Nat) r v b, st.bx.r[k]? = some r → bs.v[k]? = some v → r.isDead = false → v.ownBlock = some b → b < lo
  boxes : Boxes (Af S w0 bs st.bx.r RS listed a) w bs st.bx
  slots : ∀ t, t ∉ ds → (look t st.sl).mean (Af S w0 bs st.bx.r RS listed a) bs w (a.tmps.getD t undef)
  done : ∀ i d x, (i, d, x) ∈ RS → listed.getD i false = true → x.mean (Af S w0 bs st.bx.r RS listed a) bs w (a.tmps.getD d undef)
  fresh : ∀ i d x, (i, d, x) ∈ RS → listed.getD i false = true → x.isFresh = true → ∃ b, blkOf (a.tmps.getD d undef) = some b ∧ lo ≤ b ∧ b < w.heap.size
  dist : ∀ i d x i' d' x', (i, d, x) ∈ RS → (i', d', x') ∈ RS → listed.getD i false = true → listed.getD i' false = true → x.isFresh = true → x'.isFresh = true → i ≠ i' → blkOf (a.tmps.getD d undef) ≠ blkOf (a.tmps.getD d' undef)
  copy : ∀ i d t, (i, d, .same t) ∈ RS → listed.getD i false = true → a.tmps.getD d undef = a.tmps.getD t undef ∧ ∃ j y, (j, t, y) ∈ RS ∧ listed.getD j false = true
  size : a.tmps.size = nt
  defers : a.defers = []

/-- The entries are one for each operation, each with a slot of its own. -/
structure Entries (ds : List Nat) (nt : Nat) (RS : List Ent) : Prop where
  same : ∀ i d x d' x', (i, d, x) ∈ RS → (i, d', x') ∈ RS → d = d' ∧ x = x'
  apart : ∀ i d x i' x', (i, d, x) ∈ RS → (i', d, x') ∈ RS → i = i'
  mem : ∀ i d x, (i, d, x) ∈ RS → d ∈ ds ∧ d < nt

theorem FI.step_val {st : St} {ds : List Nat} {lo : Nat} {RS : List Ent} {listed : Array Bool} {a : Act} {w w' : World} (hent : Entries ds nt RS) (h : FI S X w0 nt bs st ds lo RS listed a w) {i d : Nat} {x : AV} (hi : i < listed.size) (hn : listed.getD i false = false) (hm : (i, d, x) ∈ RS)
    (hx : x.isFresh = false) {v : Value} (hcp : ∀ t, x = .same t → v = a.tmps.getD t undef ∧ ∃ j y, (j, t, y) ∈ RS ∧ listed.getD j false = true) (hv : Fits (Af S w0 bs st.bx.r RS listed a) bs w x v w') : FI S X w0 nt bs st ds lo RS (listed.setIfInBounds i true) (a.put (some d) v) w' := by
  obtain ⟨e, hv⟩ := hv
  have hd := (hent.mem i d x hm).2
  have hput : ∀ t, (a.put (some d) v).tmps.getD t undef = if t = d then v else a.tmps.getD t undef := fun t => getD_put a d t v (by rw [h.size]; exact hd)
  -- entries that are just made have not been touched
  have hold : ∀ j u y, (j, u, y) ∈ RS → (listed.setIfInBounds i true).getD j false = true → y.isFresh = true → listed.getD j false = true ∧ u ≠ d := by
    intro j u y hj hl hy
    rw [getD_set _ _ _ hi] at hl
    by_cases hji : j = i
    · subst hji
      have := (hent.same j u y d x hj hm).2
      rw [this, hx] at hy
      cases hy
    · rw [if_neg hji] at hl
      refine ⟨hl, fun hu => hji ?_⟩
      subst hu
      exact hent.apart j u y i x hj hm
  have hA : ∀ b, Or' (Af S w0 bs st.bx.r RS listed a) w b → Af S w0 bs st.bx.r RS (listed.setIfInBounds i true) (a.put (some d) v) b := by
    intro b hb
    have hal : Al S w0 bs st.bx.r b := by
      rcases hb with hb | hb
      · exact hb.1
      · refine ⟨.inr (Nat.le_trans h.ext.size hb), fun hmb => ?_, fun k r v hr hv hd ho => ?_⟩
        · have := h.boxes.lt hmb
          omega
        · have := h.boxes.rlt hr hv hd ho
          omega
    refine ⟨hal, fun j u y hj hl hy => ?_⟩
    obtain ⟨hl', hne⟩ := hold j u y hj hl hy
    rw [hput, if_neg hne]
    rcases hb with hb | hb
    · exact hb.2 j u y hj hl' hy
    · obtain ⟨c, hc1, hc2, hc3⟩ := h.fresh j u y hj hl' hy
      rw [hc1]
      intro e
      injection e with e
      omega
  have hA' : ∀ b, Af S w0 bs st.bx.r RS listed a b → b < w.heap.size → Af S w0 bs st.bx.r RS (listed.setIfInBounds i true) (a.put (some d) v) b := fun b hb _ => hA b (.inl hb)
  exact
    { ext := h.ext.trans e
      lo_le := Nat.le_trans h.lo_le e.size
      lo_ge := h.lo_ge
      old := h.old
      rold := h.rold
      boxes := h.boxes.ext e hA'
      slots := fun t ht => by
        have hne : t ≠ d := fun hh => ht (by rw [hh]; exact (hent.mem i d x hm).1)
        rw [hput, if_neg hne]
        exact (h.slots t ht).ext e hA'
      done := fun j u y hj hl => by
        rw [hput]
        by_cases hu : u = d
        · subst hu
          rw [if_pos rfl]
          have hji := hent.apart j u y i x hj hm
          subst hji
          rw [(hent.same j u y u x hj hm).2]
          exact hv.ext (Ext.refl w') fun b hb _ => hA b hb
        · rw [if_neg hu]
          rw [getD_set _ _ _ hi] at hl
          have hji : j ≠ i := fun hh => by subst hh; exact hu (hent.same j u y d x hj hm).1
          rw [if_neg hji] at hl
          exact (h.done j u y hj hl).ext e hA'
      fresh := fun j u y hj hl hy => by
        obtain ⟨hl', hne⟩ := hold j u y hj hl hy
        rw [hput, if_neg hne]
        obtain ⟨c, hc1, hc2, hc3⟩ := h.fresh j u y hj hl' hy
        exact ⟨c, hc1, hc2, Nat.lt_of_lt_of_le hc3 e.size⟩
      dist := fun j u y j' u' y' hj hj' hl hl' hy hy' hne => by
        obtain ⟨h1, h2⟩ := hold j u y hj hl hy
        obtain ⟨h3, h4⟩ := hold j' u' y' hj' hl' hy'
        rw [hput, hput, if_neg h2, if_neg h4]
        exact h.dist j u y j' u' y' hj hj' h1 h3 hy hy' hne
      copy := fun j u t hj hl => by
        have hfar : ∀ k q y, (k, q, y) ∈ RS → listed.getD k false = true → q ≠ d := fun k q y hk hlk e => by
          subst e
          have := hent.apart k q y i _ hk hm
          rw [this, hn] at hlk
          cases hlk
        by_cases hji : j = i
        · subst hji
          obtain ⟨e1, e2⟩ := hent.same j u _ d _ hj hm
          obtain ⟨c1, k, y, c2, c3⟩ := hcp t e2.symm
          rw [hput, hput, if_pos e1, if_neg (hfar k t y c2 c3)]
          refine ⟨c1, k, y, c2, ?_⟩
          rw [getD_set _ _ _ hi]
          split
          · rfl
          · exact c3
        · have hlj := hl
          rw [getD_set _ _ _ hi, if_neg hji] at hlj
          obtain ⟨c1, k, y, c2, c3⟩ := h.copy j u t hj hlj
          rw [hput, hput, if_neg (hfar j u _ hj hlj), if_neg (hfar k t y c2 c3)]
          refine ⟨c1, k, y, c2, ?_⟩
          rw [getD_set _ _ _ hi]
          split
          · rfl
          · exact c3
      size := by rw [put_size]; exact h.size
      defers := by rw [put_defers]; exact h.defers }

theorem FI.step_fresh {st : St} {ds : List Nat} {lo : Nat} {RS : List Ent} {listed : Array Bool} {a : Act} {w : World} (hent : Entries ds nt RS) (h : FI S X w0 nt bs st ds lo RS listed a w) {i d : Nat} {t : TypeId} {cs : List CV} (hi : i < listed.size) (hn : listed.getD i false = false) (hm : (i, d, .fresh t cs) ∈ RS)
    {us : List Value} (hus : All2 (CV.mean (Af S w0 bs st.bx.r RS listed a) w) cs us) :
    FI S X w0 nt bs st ds lo RS (listed.setIfInBounds i true) (a.put (some d) (.pointer (some ⟨w.heap.size, 0, none⟩))) (w.alloc (.cells us.toArray t)) := by
  have e := Ext.alloc w (.cells us.toArray t)
  have hd := (hent.mem i d _ hm).2
  have hput : ∀ t, (a.put (some d) (.pointer (some ⟨w.heap.size, 0, none⟩))).tmps.getD t undef = if t = d then .pointer (some ⟨w.heap.size, 0, none⟩) else a.tmps.getD t undef := fun t => getD_put a d t _ (by rw [h.size]; exact hd)
  have hold : ∀ j u y, (j, u, y) ∈ RS → (listed.setIfInBounds i true).getD j false = true → j ≠ i → listed.getD j false = true ∧ u ≠ d := by
    intro j u y hj hl hji
    rw [getD_set _ _ _ hi, if_neg hji] at hl
    refine ⟨hl, fun hu => hji ?_⟩
    subst hu
    exact hent.apart j u y i _ hj hm
  have hA : ∀ b, Af S w0 bs st.bx.r RS listed a b → b < w.heap.size → Af S w0 bs st.bx.r RS (listed.setIfInBounds i true) (a.put (some d) (.pointer (some ⟨w.heap.size, 0, none⟩))) b := by
    intro b hb hlt
    refine ⟨hb.1, fun j u y hj hl hy => ?_⟩
    by_cases hji : j = i
    · subst hji
      rw [(hent.same j u y d _ hj hm).1, hput, if_pos rfl]
      intro e
      have e : some w.heap.size = some b := e
      injection e with e
      omega
    · obtain ⟨hl', hne⟩ := hold j u y hj hl hji
      rw [hput, if_neg hne]
      exact hb.2 j u y hj hl' hy
  have hsz : (w.alloc (.cells us.toArray t)).heap.size = w.heap.size + 1 := by simp
  exact
    { ext := h.ext.trans e
      lo_le := Nat.le_trans h.lo_le e.size
      lo_ge := h.lo_ge
      old := h.old
      rold := h.rold
      boxes := h.boxes.ext e hA
      slots := fun t ht => by
        have hne : t ≠ d := fun hh => ht (by rw [hh]; exact (hent.mem i d _ hm).1)
        rw [hput, if_neg hne]
        exact (h.slots t ht).ext e hA
      done := fun j u y hj hl => by
        by_cases hji : j = i
        · subst hji
          obtain ⟨rfl, rfl⟩ := hent.same j u y d _ hj hm
          rw [hput, if_pos rfl]
          exact ⟨w.heap.size, us, rfl, heap_alloc_new w _, CV.all_keep hus (e.keepsTo hA)⟩
        · obtain ⟨hl', hne⟩ := hold j u y hj hl hji
          rw [hput, if_neg hne]
          exact (h.done j u y hj hl').ext e hA
      fresh := fun j u y hj hl hy => by
        by_cases hji : j = i
        · subst hji
          rw [(hent.same j u y d _ hj hm).1, hput, if_pos rfl]
          exact ⟨w.heap.size, rfl, h.lo_le, by rw [hsz]; omega⟩
        · obtain ⟨hl', hne⟩ := hold j u y hj hl hji
          rw [hput, if_neg hne]
          obtain ⟨c, hc1, hc2, hc3⟩ := h.fresh j u y hj hl' hy
          exact ⟨c, hc1, hc2, by rw [hsz]; omega⟩
      dist := fun j u y j' u' y' hj hj' hl hl' hy hy' hne => by
        by_cases hji : j = i
        · subst hji
          obtain ⟨h3, h4⟩ := hold j' u' y' hj' hl' (fun hh => hne hh.symm)
          rw [(hent.same j u y d _ hj hm).1, hput, hput, if_pos rfl, if_neg h4]
          obtain ⟨c, hc1, hc2, hc3⟩ := h.fresh j' u' y' hj' h3 hy'
          rw [hc1]
          intro e
          have e : some w.heap.size = some c := e
          injection e with e
          omega
        · obtain ⟨h1, h2⟩ := hold j u y hj hl hji
          by_cases hji' : j' = i
          · subst hji'
            rw [(hent.same j' u' y' d _ hj' hm).1, hput, hput, if_pos rfl, if_neg h2]
            obtain ⟨c, hc1, hc2, hc3⟩ := h.fresh j u y hj h1 hy
            rw [hc1]
            intro e
            have e : some c = some w.heap.size := e
            injection e with e
            omega
          · obtain ⟨h3, h4⟩ := hold j' u' y' hj' hl' hji'
            rw [hput, hput, if_neg h2, if_neg h4]
            exact h.dist j u y j' u' y' hj hj' h1 h3 hy hy' hne
      copy := fun j u t hj hl => by
        have hfar : ∀ k q y, (k, q, y) ∈ RS → listed.getD k false = true → q ≠ d := fun k q y hk hlk e => by
          subst e
          have := hent.apart k q y i _ hk hm
          rw [this, hn] at hlk
          cases hlk
        by_cases hji : j = i
        · subst hji
          obtain ⟨e1, e2⟩ := hent.same j u _ d _ hj hm
          cases e2
        · have hlj := hl
          rw [getD_set _ _ _ hi, if_neg hji] at hlj
          obtain ⟨c1, k, y, c2, c3⟩ := h.copy j u t hj hlj
          rw [hput, hput, if_neg (hfar j u _ hj hlj), if_neg (hfar k t y c2 c3)]
          refine ⟨c1, k, y, c2, ?_⟩
          rw [getD_set _ _ _ hi]
          split
          · rfl
          · exact c3
      size := by rw [put_size]; exact h.size
      defers := by rw [put_defers]; exact h.defers }

theorem FI.step_row {st : St} {ds : List Nat} {lo : Nat} {RS : List Ent} {listed : Array Bool} {a : Act} {w w' : World} (hent : Entries ds nt RS) (h : FI S X w0 nt bs st ds lo RS listed a w) {i d : Nat} {ty : TypeId} {ll : List Nat} (hi : i < listed.size) (hn : listed.getD i false = false) (hm : (i, d, .freshN ty ll) ∈ RS)
    {v : Value} (e : Ext w w') (hv : (AV.freshN ty ll).mean (Af S w0 bs st.bx.r RS listed a) bs w' v) (hnew : ∀ b, v.ownBlock = some b → w.heap.size ≤ b) :
    FI S X w0 nt bs st ds lo RS (listed.setIfInBounds i true) (a.put (some d) v) w' := by
  have hd := (hent.mem i d _ hm).2
  have hput : ∀ t, (a.put (some d) v).tmps.getD t undef = if t = d then v else a.tmps.getD t undef := fun t => getD_put a d t _ (by rw [h.size]; exact hd)
  obtain ⟨hlim, hown, b0, hb0⟩ := hv
  have hlt0 : b0 < w'.heap.size := (hown.lt b0 hb0).2
  have hge0 := hnew b0 hb0
  have hblk := blk_own hb0
  have hold : ∀ j u y, (j, u, y) ∈ RS → (listed.setIfInBounds i true).getD j false = true → j ≠ i → listed.getD j false = true ∧ u ≠ d := by
    intro j u y hj hl hji
    rw [getD_set _ _ _ hi, if_neg hji] at hl
    refine ⟨hl, fun hu => hji ?_⟩
    subst hu
    exact hent.apart j u y i _ hj hm
  have hA : ∀ b, Af S w0 bs st.bx.r RS listed a b → b < w.heap.size → Af S w0 bs st.bx.r RS (listed.setIfInBounds i true) (a.put (some d) v) b := by
    intro b hb hlt
    refine ⟨hb.1, fun j u y hj hl hy => ?_⟩
    by_cases hji : j = i
    · subst hji
      rw [(hent.same j u y d _ hj hm).1, hput, if_pos rfl, hblk]
      intro e
      injection e with e
      omega
    · obtain ⟨hl', hne⟩ := hold j u y hj hl hji
      rw [hput, if_neg hne]
      exact hb.2 j u y hj hl' hy
  exact
    { ext := h.ext.trans e
      lo_le := Nat.le_trans h.lo_le e.size
      lo_ge := h.lo_ge
      old := h.old
      rold := h.rold
      boxes := h.boxes.ext e hA
      slots := fun t ht => by
        have hne : t ≠ d := fun hh => ht (by rw [hh]; exact (hent.mem i d _ hm).1)
        rw [hput, if_neg hne]
        exact (h.slots t ht).ext e hA
      done := fun j u y hj hl => by
        by_cases hji : j = i
        · subst hji
          obtain ⟨rfl, rfl⟩ := hent.same j u y d _ hj hm
          rw [hput, if_pos rfl]
          exact ⟨hlim, hown, b0, hb0⟩
        · obtain ⟨hl', hne⟩ := hold j u y hj hl hji
          rw [hput, if_neg hne]
          exact (h.done j u y hj hl').ext e hA
      fresh := fun j u y hj hl hy => by
        by_cases hji : j = i
        · subst hji
          rw [(hent.same j u y d _ hj hm).1, hput, if_pos rfl]
          exact ⟨b0, hblk, Nat.le_trans h.lo_le hge0, hlt0⟩
        · obtain ⟨hl', hne⟩ := hold j u y hj hl hji
          rw [hput, if_neg hne]
          obtain ⟨c, hc1, hc2, hc3⟩ := h.fresh j u y hj hl' hy
          exact ⟨c, hc1, hc2, Nat.lt_of_lt_of_le hc3 e.size⟩
      dist := fun j u y j' u' y' hj hj' hl hl' hy hy' hne => by
        by_cases hji : j = i
        · subst hji
          obtain ⟨h3, h4⟩ := hold j' u' y' hj' hl' (fun hh => hne hh.symm)
          rw [(hent.same j u y d _ hj hm).1, hput, hput, if_pos rfl, if_neg h4, hblk]
          obtain ⟨c, hc1, hc2, hc3⟩ := h.fresh j' u' y' hj' h3 hy'
          rw [hc1]
          intro e
          injection e with e
          omega
        · obtain ⟨h1, h2⟩ := hold j u y hj hl hji
          by_cases hji' : j' = i
          · subst hji'
            rw [(hent.same j' u' y' d _ hj' hm).1, hput, hput, if_pos rfl, if_neg h2, hblk]
            obtain ⟨c, hc1, hc2, hc3⟩ := h.fresh j u y hj h1 hy
            rw [hc1]
            intro e
            injection e with e
            omega
          · obtain ⟨h3, h4⟩ := hold j' u' y' hj' hl' hji'
            rw [hput, hput, if_neg h2, if_neg h4]
            exact h.dist j u y j' u' y' hj hj' h1 h3 hy hy' hne
      copy := fun j u t hj hl => by
        have hfar : ∀ k q y, (k, q, y) ∈ RS → listed.getD k false = true → q ≠ d := fun k q y hk hlk e => by
          subst e
          have := hent.apart k q y i _ hk hm
          rw [this, hn] at hlk
          cases hlk
        by_cases hji : j = i
        · subst hji
          obtain ⟨e1, e2⟩ := hent.same j u _ d _ hj hm
          cases e2
        · have hlj := hl
          rw [getD_set _ _ _ hi, if_neg hji] at hlj
          obtain ⟨c1, k, y, c2, c3⟩ := h.copy j u t hj hlj
          rw [hput, hput, if_neg (hfar j u _ hj hlj), if_neg (hfar k t y c2 c3)]
          refine ⟨c1, k, y, c2, ?_⟩
          rw [getD_set _ _ _ hi]
          split
          · rfl
          · exact c3
      size := by rw [put_size]; exact h.size
      defers := by rw [put_defers]; exact h.defers }

/-- All is done: what was made are boxes and rows of the call. -/
theorem FI.settled {st : St} {ds : List Nat} {lo : Nat} {RS : List Ent} {listed : Array Bool} {a : Act} {w : World} (h : FI S X w0 nt bs st ds lo RS listed a w) (hxs : ∀ b, X b → S b) (hnd : bs.b.Nodup) (hnew : ∀ b, b ∈ bs.b → w0.heap.size ≤ b)
    (hrnew : ∀ (k : Nat) r v b, st.bx.r[k]? = some r → bs.v[k]? = some v → r.isDead = false → v.ownBlock = some b → (w0.heap.size ≤ b ∨ X b) ∧ b ∉ bs.b)
    (hrdist : ∀ (k k' : Nat) r r' v v' b, st.bx.r[k]? = some r → st.bx.r[k']? = some r' → bs.v[k]? = some v → bs.v[k']? = some v' → r.isDead = false → r'.isDead = false → k ≠ k' → v.ownBlock = some b → v'.ownBlock ≠ some b) (hpl : ∀ t, (look t st.sl).isFresh = false)
    (hall : ∀ i d x, (i, d, x) ∈ RS → listed.getD i false = true) (hds : ∀ d, d ∈ ds → ∃ i x, (i, d, x) ∈ RS) (hidx : (RS.map fun e => e.1).Nodup) : ∃ bs', Has S X w0 nt (settle RS st) a w bs' := by
  have hlen0 : st.bx.r.length = bs.v.length := h.boxes.rows.length
  -- by the entries, one behind the other
  have key : ∀ (l : List Ent), (l.map fun e => e.1).Nodup → (∀ e, e ∈ l → e ∈ RS) → ∃ (cs : List Nat) (vs : List Value) (rs : List Rw),
      (∀ b, b ∈ cs → ∃ i d x, (i, d, x) ∈ l ∧ x.isFresh = true ∧ blkOf (a.tmps.getD d undef) = some b) ∧ cs.Nodup ∧
      (∀ v, v ∈ vs → ∃ i d x b, (i, d, x) ∈ l ∧ x.isFresh = true ∧ a.tmps.getD d undef = v ∧ v.ownBlock = some b) ∧ vs.Pairwise (fun v v' => v.ownBlock ≠ v'.ownBlock) ∧ (∀ v b, v ∈ vs → v.ownBlock = some b → b ∉ cs) ∧
      Boxes (Af S w0 bs st.bx.r RS listed a) w ⟨bs.b ++ cs, bs.v ++ vs⟩ (settle l st).bx ∧ (settle l st).bx.r = st.bx.r ++ rs ∧ rs.length = vs.length ∧
      (∀ t, (t ∉ ds ∨ ∃ i x, (i, t, x) ∈ l) → (look t (settle l st).sl).mean (Af S w0 bs st.bx.r RS listed a) ⟨bs.b ++ cs, bs.v ++ vs⟩ w (a.tmps.getD t undef)) ∧
      (∀ t, (look t (settle l st).sl).isFresh = false) := by
    intro l
    induction l with
    | nil =>
      intro _ _
      refine ⟨[], [], [], by simp, by simp, by simp, by simp, by simp, by simpa [settle] using h.boxes, by simp [settle], rfl, fun t ht => ?_, by simpa [settle] using hpl⟩
      rcases ht with ht | ⟨i, x, hx⟩
      · simpa [settle] using h.slots t ht
      · cases hx
    | cons e l ih =>
      intro hnod hsub
      obtain ⟨i, d, x⟩ := e
      simp only [List.map_cons, List.nodup_cons] at hnod
      obtain ⟨cs, vs, rs, h1, h2, h1v, h2v, h2c, h3, h3r, h3l, h4, h5⟩ := ih hnod.2 (fun e he => hsub e (List.mem_cons_of_mem _ he))
      have hm : (i, d, x) ∈ RS := hsub _ (List.mem_cons_self ..)
      have hmean := h.done i d x hm (hall i d x hm)
      have hfar : ∀ j u y, (j, u, y) ∈ l → y.isFresh = true → x.isFresh = true → blkOf (a.tmps.getD u undef) ≠ blkOf (a.tmps.getD d undef) := fun j u y hj hy hx => by
        have hjR := hsub _ (List.mem_cons_of_mem _ hj)
        have hne : j ≠ i := fun hh => hnod.1 (List.mem_map.2 ⟨_, hj, hh⟩)
        exact h.dist j u y i d _ hjR hm (hall _ _ _ hjR) (hall _ _ _ hm) hy hx hne
      have hlook : ∀ (z : AV) (sl : List (Nat × AV)) (bs' : An), z.mean (Af S w0 bs st.bx.r RS listed a) bs' w (a.tmps.getD d undef) → (∀ t, (t ∉ ds ∨ ∃ i x, (i, t, x) ∈ l) → (look t sl).mean (Af S w0 bs st.bx.r RS listed a) bs' w (a.tmps.getD t undef)) →
          ∀ t, (t ∉ ds ∨ ∃ j y, (j, t, y) ∈ (i, d, x) :: l) → (look t ((d, z) :: sl)).mean (Af S w0 bs st.bx.r RS listed a) bs' w (a.tmps.getD t undef) := by
        intro z sl bs' hz hsl t ht
        unfold look
        cases hb : Nat.beq t d with
        | true => have := Nat.eq_of_beq_eq_true hb; subst this; exact hz
        | false =>
          refine hsl t ?_
          rcases ht with ht | ⟨j, y, hy⟩
          · exact .inl ht
          · rcases List.mem_cons.1 hy with hy | hy
            · injection hy with _ hy
              injection hy with hy _
              subst hy
              rw [Nat.beq_refl] at hb
              cases hb
            · exact .inr ⟨j, y, hy⟩
      have hlookf : ∀ (z : AV) (sl : List (Nat × AV)), z.isFresh = false → (∀ t, (look t sl).isFresh = false) → ∀ t, (look t ((d, z) :: sl)).isFresh = false := by
        intro z sl hz hsl t
        unfold look
        cases Nat.beq t d with
        | true => exact hz
        | false => exact hsl t
      have up1 : ∀ b, b ∈ cs → ∃ j u y, (j, u, y) ∈ (i, d, x) :: l ∧ y.isFresh = true ∧ blkOf (a.tmps.getD u undef) = some b := fun b hb => by
        obtain ⟨j, u, y, hj, r⟩ := h1 b hb
        exact ⟨j, u, y, List.mem_cons_of_mem _ hj, r⟩
      have up2 : ∀ v, v ∈ vs → ∃ j u y b, (j, u, y) ∈ (i, d, x) :: l ∧ y.isFresh = true ∧ a.tmps.getD u undef = v ∧ v.ownBlock = some b := fun v hv => by
        obtain ⟨j, u, y, b, hj, r⟩ := h1v v hv
        exact ⟨j, u, y, b, List.mem_cons_of_mem _ hj, r⟩
      cases hx : x.isFresh with
      | false =>
        cases hsm : x.isSame with
        | false =>
          have es : settle ((i, d, x) :: l) st = ⟨(d, x) :: (settle l st).sl, (settle l st).bx⟩ := by
            cases x <;> first | rfl | (cases hx; done) | (cases hsm; done)
          rw [es]
          exact ⟨cs, vs, rs, up1, h2, up2, h2v, h2c, h3, h3r, h3l, hlook x _ _ (hmean.more cs vs) h4, hlookf x _ hx h5⟩
        | true =>
          cases x with
          | same u =>
            have es : settle ((i, d, .same u) :: l) st = ⟨(d, cond (l.any fun e => Nat.beq u e.2.1) (look u (settle l st).sl) .any) :: (settle l st).sl, (settle l st).bx⟩ := rfl
            rw [es]
            obtain ⟨hcopy, _⟩ := h.copy i d u hm (hall _ _ _ hm)
            refine ⟨cs, vs, rs, up1, h2, up2, h2v, h2c, h3, h3r, h3l, hlook _ _ _ ?_ h4, hlookf _ _ ?_ h5⟩
            · cases hany : (l.any fun e => Nat.beq u e.2.1) with
              | false => trivial
              | true =>
                rw [List.any_eq_true] at hany
                obtain ⟨⟨j, u', y⟩, he1, he2⟩ := hany
                have he2 := Nat.eq_of_beq_eq_true he2
                simp only at he2
                subst he2
                rw [hcopy]
                exact h4 u (.inr ⟨j, y, he1⟩)
            · cases (l.any fun e => Nat.beq u e.2.1) with
              | false => rfl
              | true => exact h5 u
          | _ => cases hsm
      | true =>
        cases x with
        | fresh ty ws =>
          obtain ⟨b, us, hb1, hb2, hb3⟩ := hmean
          have hblk : blkOf (a.tmps.getD d undef) = some b := by rw [hb1]; rfl
          have es : settle ((i, d, .fresh ty ws) :: l) st = ⟨(d, .ptr (settle l st).bx.b.length 0) :: (settle l st).sl, ⟨(settle l st).bx.b ++ [(ty, ws)], (settle l st).bx.r⟩⟩ := rfl
          rw [es]
          have hlen : (settle l st).bx.b.length = (bs.b ++ cs).length := h3.vars.length
          refine ⟨cs ++ [b], vs, rs, fun c hc => ?_, ?_, up2, h2v, fun v c hv ho hc => ?_, ?_, h3r, h3l, ?_, hlookf _ _ rfl h5⟩
          · rcases List.mem_append.1 hc with hc | hc
            · exact up1 c hc
            · simp only [List.mem_singleton] at hc
              subst hc
              exact ⟨i, d, _, List.mem_cons_self .., rfl, hblk⟩
          · rw [List.nodup_append]
            refine ⟨h2, by simp, fun c hc c' hc' => ?_⟩
            simp only [List.mem_singleton] at hc'
            subst hc'
            obtain ⟨j, u, y, hj, hy, hu⟩ := h1 c hc
            have := hfar j u y hj hy rfl
            rw [hu, hblk] at this
            intro hcc
            exact this (by rw [hcc])
          · rcases List.mem_append.1 hc with hc | hc
            · exact h2c v c hv ho hc
            · simp only [List.mem_singleton] at hc
              subst hc
              obtain ⟨j, u, y, b', hj, hy, hu, _⟩ := h1v v hv
              have := hfar j u y hj hy rfl
              rw [hu, blk_own ho, hblk] at this
              exact this rfl
          · rw [← List.append_assoc]
            exact ⟨h3.vars.append ⟨⟨us, hb2, hb3⟩, trivial⟩, h3.rows⟩
          · refine hlook _ _ _ ?_ (fun t ht => by
              have := (h4 t ht).more [b] []
              rw [List.append_nil] at this
              rw [← List.append_assoc]
              exact this)
            refine ⟨b, ?_, hb1⟩
            simp only
            rw [hlen, ← List.append_assoc]
            simp
        | freshN ty ll =>
          obtain ⟨hlim, hown, b, hb⟩ := hmean
          have hblk : blkOf (a.tmps.getD d undef) = some b := blk_own hb
          have es : settle ((i, d, .freshN ty ll) :: l) st = ⟨(d, .own (settle l st).bx.r.length) :: (settle l st).sl, ⟨(settle l st).bx.b, (settle l st).bx.r ++ [.n ty ll]⟩⟩ := rfl
          rw [es]
          have hlen : (settle l st).bx.r.length = (bs.v ++ vs).length := h3.rows.length
          refine ⟨cs, vs ++ [a.tmps.getD d undef], rs ++ [.n ty ll], up1, h2, fun v hv => ?_, ?_, fun v c hv ho hc => ?_, ?_, by simp only; rw [h3r, List.append_assoc], by simp [h3l], ?_, hlookf _ _ rfl h5⟩
          · rcases List.mem_append.1 hv with hv | hv
            · exact up2 v hv
            · simp only [List.mem_singleton] at hv
              subst hv
              exact ⟨i, d, _, b, List.mem_cons_self .., rfl, rfl, hb⟩
          · rw [List.pairwise_append]
            refine ⟨h2v, by simp, fun v hv v' hv' => ?_⟩
            simp only [List.mem_singleton] at hv'
            subst hv'
            obtain ⟨j, u, y, b', hj, hy, hu, ho⟩ := h1v v hv
            have := hfar j u y hj hy rfl
            rw [hu, blk_own ho, hblk] at this
            rw [ho, hb]
            exact this
          · rcases List.mem_append.1 hv with hv | hv
            · exact h2c v c hv ho hc
            · simp only [List.mem_singleton] at hv
              subst hv
              obtain ⟨j, u, y, hj, hy, hu⟩ := h1 c hc
              have := hfar j u y hj hy rfl
              rw [hu, blk_own ho] at this
              exact this rfl
          · rw [← List.append_assoc]
            exact ⟨h3.vars, h3.rows.append ⟨⟨hlim, hown⟩, trivial⟩⟩
          · refine hlook _ _ _ ?_ (fun t ht => by
              have := (h4 t ht).more [] [a.tmps.getD d undef]
              rw [List.append_nil] at this
              rw [← List.append_assoc]
              exact this)
            show (bs.v ++ (vs ++ [a.tmps.getD d undef]))[(settle l st).bx.r.length]? = some (a.tmps.getD d undef)
            rw [hlen, ← List.append_assoc]
            simp
        | _ => cases hx
  obtain ⟨cs, vs, rs, h1, h2, h1v, h2v, h2c, h3, h3r, h3l, h4, h5⟩ := key RS hidx (fun e he => he)
  have hcs : ∀ b, b ∈ cs → lo ≤ b := by
    intro b hb
    obtain ⟨i, d, x, hm, hx, hp⟩ := h1 b hb
    obtain ⟨c, hc1, hc2, _⟩ := h.fresh i d x hm (hall i d x hm) hx
    rw [hp] at hc1
    injection hc1 with hc1
    omega
  have hvs : ∀ v b, v ∈ vs → v.ownBlock = some b → lo ≤ b := by
    intro v b hv hb
    obtain ⟨i, d, x, b', hm, hx, hp, _⟩ := h1v v hv
    obtain ⟨c, hc1, hc2, _⟩ := h.fresh i d x hm (hall i d x hm) hx
    rw [hp, blk_own hb] at hc1
    injection hc1 with hc1
    omega
  -- a row is an old one, or new
  have hrow : ∀ (k : Nat) r v, (st.bx.r ++ rs)[k]? = some r → (bs.v ++ vs)[k]? = some v → (st.bx.r[k]? = some r ∧ bs.v[k]? = some v) ∨ (st.bx.r.length ≤ k ∧ vs[k - st.bx.r.length]? = some v) := by
    intro k r v hr hv
    rcases Nat.lt_or_ge k st.bx.r.length with hk | hk
    · rw [List.getElem?_append_left hk] at hr
      rw [List.getElem?_append_left (by omega)] at hv
      exact .inl ⟨hr, hv⟩
    · rw [List.getElem?_append_right (by omega), ← hlen0] at hv
      exact .inr ⟨hk, hv⟩
  have hA : ∀ b, Af S w0 bs st.bx.r RS listed a b → b < w.heap.size → Al S w0 ⟨bs.b ++ cs, bs.v ++ vs⟩ (settle RS st).bx.r b := fun b hb _ => ⟨hb.1.1, fun hm => by
    rcases List.mem_append.1 hm with hm | hm
    · exact hb.1.2.1 hm
    · obtain ⟨i, d, x, hmR, hx, hp⟩ := h1 b hm
      exact hb.2 i d x hmR (hall i d x hmR) hx hp, by
    rw [h3r]
    intro k r v hr hv hd ho
    rcases hrow k r v hr hv with ⟨g1, g2⟩ | ⟨_, g2⟩
    · exact hb.1.2.2 k r v g1 g2 hd ho
    · obtain ⟨i, d, x, b', hmR, hx, hp, _⟩ := h1v v (List.mem_of_getElem? g2)
      exact hb.2 i d x hmR (hall i d x hmR) hx (by rw [hp]; exact blk_own ho)⟩
  exact ⟨⟨bs.b ++ cs, bs.v ++ vs⟩,
    { ext := h.ext
      xs := hxs
      boxes := h3.ext (Ext.refl w) hA
      nodup := by
        rw [List.nodup_append]
        exact ⟨hnd, h2, fun b hb c hc => by have := h.old b hb; have := hcs c hc; omega⟩
      new := fun b hb => by
        rcases List.mem_append.1 hb with hb | hb
        · exact hnew b hb
        · exact Nat.le_trans h.lo_ge (hcs b hb)
      rnew := by
        rw [h3r]
        intro k r v b hr hv hd ho
        rcases hrow k r v hr hv with ⟨g1, g2⟩ | ⟨_, g2⟩
        · obtain ⟨n1, n2⟩ := hrnew k r v b g1 g2 hd ho
          refine ⟨n1, fun hm => ?_⟩
          rcases List.mem_append.1 hm with hm | hm
          · exact n2 hm
          · have := hcs b hm
            have := h.rold k r v b g1 g2 hd ho
            omega
        · have hv' := List.mem_of_getElem? g2
          have hge := hvs v b hv' ho
          refine ⟨.inl (Nat.le_trans h.lo_ge hge), fun hm => ?_⟩
          rcases List.mem_append.1 hm with hm | hm
          · have := h.old b hm
            omega
          · exact h2c v b hv' ho hm
      rdist := by
        rw [h3r]
        intro k k' r r' v v' b hr hr' hv hv' hd hd' hne ho ho'
        rcases hrow k r v hr hv with ⟨g1, g2⟩ | ⟨q1, g2⟩
        · rcases hrow k' r' v' hr' hv' with ⟨g3, g4⟩ | ⟨q3, g4⟩
          · exact hrdist k k' r r' v v' b g1 g3 g2 g4 hd hd' hne ho ho'
          · have := h.rold k r v b g1 g2 hd ho
            have := hvs v' b (List.mem_of_getElem? g4) ho'
            omega
        · rcases hrow k' r' v' hr' hv' with ⟨g3, g4⟩ | ⟨q3, g4⟩
          · have := h.rold k' r' v' b g3 g4 hd' ho'
            have := hvs v b (List.mem_of_getElem? g2) ho
            omega
          · obtain ⟨l1, e1⟩ := List.getElem?_eq_some_iff.1 g2
            obtain ⟨l2, e2⟩ := List.getElem?_eq_some_iff.1 g4
            rcases Nat.lt_or_ge (k - st.bx.r.length) (k' - st.bx.r.length) with hlt | hge
            · have := (List.pairwise_iff_getElem.1 h2v) _ _ l1 l2 hlt
              rw [e1, e2, ho, ho'] at this
              exact this rfl
            · have := (List.pairwise_iff_getElem.1 h2v) _ _ l2 l1 (by omega)
              rw [e1, e2, ho, ho'] at this
              exact this rfl
      slots := fun t => by
        refine (h4 t ?_).ext (Ext.refl w) hA
        by_cases ht : t ∈ ds
        · exact .inr (hds t ht)
        · exact .inl ht
      plain := h5
      size := h.size
      defers := h.defers }⟩

end
end Go.Gm
