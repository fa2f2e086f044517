/-
  The frame of all proofs of this seat, part Fb: that one state says no more than another. Plain theorems; no condition.
-/
import Derived.Test.YtihmifpdnipdmaaCoreF
set_option linter.all false
namespace Go.Gm
open Go.RowKit (Below)

/-- No pointer to a box or a row that is not there. -/
def AV.within (nb nr : Nat) : AV → Bool
  | .ptr k _ => Nat.blt k nb
  | .own k => Nat.blt k nr
  | .ownAt k _ _ => Nat.blt k nr
  | .fresh .. => false
  | .freshN .. => false
  | .part k _ _ _ => Nat.blt k nr
  | _ => true

/-- What a slot was before; nil may have become an empty row. -/
def wasV (n : Nat) : AV → AV
  | .own k => cond (Nat.blt k n) (.own k) (.val (.slice none 0 0))
  | .ownAt k s j => cond (Nat.blt k n) (.ownAt k s j) .any
  | .part k lo m o => cond (Nat.blt k n) (.part k lo m o) .any
  | v => v

def isOwnAtNew (n : Nat) : AV → Bool
  | .ownAt k _ _ => !Nat.blt k n
  | .part k _ _ _ => !Nat.blt k n
  | _ => false

def LeS (nb n nr : Nat) : List (Nat × AV) → List (Nat × AV) → Prop
  | [], _ => True
  | (t, v) :: l, s => (v.within nb nr && !isOwnAtNew n v) = true ∧ look t s = wasV n v ∧ LeS nb n nr l s

def Rw.isNil : Rw → Bool
  | .n _ [] => true
  | .s _ _ [] => true
  | .ll _ _ [] => true
  | _ => false

def LeR : List Rw → List Rw → Prop
  | _, [] => True
  | x :: xs, y :: ys => x = y ∧ LeR xs ys
  | [], y :: ys => y.isNil = true ∧ LeR [] ys

/-- The second says no more than the first. -/
def Le (st st2 : St) : Prop := st.bx.b.take st2.bx.b.length = st2.bx.b ∧ LeR st.bx.r st2.bx.r ∧ LeS st2.bx.b.length st.bx.r.length st2.bx.r.length st2.sl st.sl

section
variable {P : Program} {E : Env} {S X : Nat → Prop} {w0 : World} {nt : Nat}

theorem look_le {nb n nr : Nat} {t : Nat} : ∀ {l s : List (Nat × AV)}, LeS nb n nr l s → look t l = .any ∨ (look t s = wasV n (look t l) ∧ (look t l).within nb nr = true ∧ isOwnAtNew n (look t l) = false)
  | [], _, _ => .inl rfl
  | (u, v) :: l, s, ⟨h1, h2, h3⟩ => by
    unfold look
    cases hb : Nat.beq t u with
    | true =>
      have e := Nat.eq_of_beq_eq_true hb
      subst e
      simp only [Bool.and_eq_true, Bool.not_eq_true'] at h1
      refine .inr ⟨?_, h1⟩
      simp only [cond_true]
      rw [← h2]
      cases s <;> rfl
    | false =>
      simp only [cond_false]
      rcases look_le (t := t) h3 with h | ⟨h, h'⟩
      · exact .inl h
      · refine .inr ⟨?_, h'⟩
        rw [← h]
        cases s <;> rfl

/-- The values of the rows, those that are nil too. -/
def nilsTo (n : Nat) (vs : List Value) : List Value := vs.take n ++ List.replicate (n - vs.length) (.slice none 0 0)

theorem nilsTo_old {n k : Nat} {vs : List Value} (hk : k < n) (hv : k < vs.length) : (nilsTo n vs)[k]? = vs[k]? := by
  unfold nilsTo
  rw [List.getElem?_append_left (by simp; omega), List.getElem?_take, if_pos hk]
theorem nilsTo_new {n k : Nat} {vs : List Value} (hk : k < n) (hv : vs.length ≤ k) : (nilsTo n vs)[k]? = some (.slice none 0 0) := by
  unfold nilsTo
  rw [List.getElem?_append_right (by simp; omega), List.getElem?_replicate, if_pos (by simp; omega)]
theorem nilsTo_none {n k : Nat} {vs : List Value} (hk : n ≤ k) : (nilsTo n vs)[k]? = none := by
  rw [List.getElem?_eq_none]
  unfold nilsTo
  simp
  omega

theorem LeR.get : ∀ {xs ys : List Rw}, LeR xs ys → ∀ {k : Nat} {y : Rw}, ys[k]? = some y → (k < xs.length → xs[k]? = some y) ∧ (xs.length ≤ k → y.isNil = true)
  | _, [], _, _, _, hk => by simp at hk
  | x :: xs, y :: ys, ⟨h1, h2⟩, 0, z, hk => by
    subst h1
    exact ⟨fun _ => by simpa using hk, fun h => by simp at h⟩
  | x :: xs, y :: ys, ⟨_, h2⟩, k + 1, z, hk => by
    have := LeR.get h2 (k := k) (y := z) (by simpa using hk)
    exact ⟨fun h => by simpa using this.1 (by simpa using h), fun h => this.2 (by simpa using h)⟩
  | [], y :: ys, ⟨h1, h2⟩, 0, z, hk => by
    simp only [List.getElem?_cons_zero, Option.some.injEq] at hk
    subst hk
    exact ⟨fun h => by simp at h, fun _ => h1⟩
  | [], y :: ys, ⟨h1, h2⟩, k + 1, z, hk => by
    have := LeR.get h2 (k := k) (y := z) (by simpa using hk)
    exact ⟨fun h => by simp at h, fun _ => this.2 (by simp)⟩

theorem Rw.nil_mean {A : Nat → Prop} {w : World} {y : Rw} (h : y.isNil = true) : y.mean A w (.slice none 0 0) := by
  cases y with
  | n e l => cases l with
    | nil => exact ⟨fun x hx => (by cases hx), rfl, .inl ⟨rfl, rfl⟩⟩
    | cons x l => cases h
  | s e k l => cases l with
    | nil => exact ⟨[], ⟨by simp, .inl ⟨rfl, rfl⟩⟩, (fun u hu => by cases hu), trivial, (fun x hx => by cases hx)⟩
    | cons x l => cases h
  | ll e k l => cases l with
    | nil => exact ⟨[], ⟨rfl, .inl ⟨rfl, rfl⟩⟩, trivial⟩
    | cons x l => cases h
  | dead => cases h

theorem All2.of_get {α β : Type} {R : α → β → Prop} : ∀ {xs : List α} {ys : List β}, xs.length = ys.length → (∀ (k : Nat) x y, xs[k]? = some x → ys[k]? = some y → R x y) → All2 R xs ys
  | [], [], _, _ => trivial
  | x :: xs, y :: ys, hl, h => ⟨h 0 x y rfl rfl, All2.of_get (by simpa using hl) (fun k x y hx hy => h (k + 1) x y (by simpa using hx) (by simpa using hy))⟩
  | [], _ :: _, hl, _ => by simp at hl
  | _ :: _, [], hl, _ => by simp at hl

theorem Has.weaken {st st2 : St} {a : Act} {w : World} {bs : An} (h : Has S X w0 nt st a w bs) (hl : Le st st2) : Has S X w0 nt st2 a w ⟨bs.b.take st2.bx.b.length, nilsTo st2.bx.r.length bs.v⟩ := by
  obtain ⟨hb, hr, hs⟩ := hl
  have hlen : st.bx.r.length = bs.v.length := h.boxes.rows.length
  have hsub : ∀ b, b ∈ bs.b.take st2.bx.b.length → b ∈ bs.b := fun b hm => List.mem_of_mem_take hm
  -- a row is an old one, or nil
  have hrow : ∀ (k : Nat) r v, st2.bx.r[k]? = some r → (nilsTo st2.bx.r.length bs.v)[k]? = some v → (st.bx.r[k]? = some r ∧ bs.v[k]? = some v) ∨ (r.isNil = true ∧ v = .slice none 0 0) := by
    intro k r v hk hv
    have hk2 := (List.getElem?_eq_some_iff.1 hk).1
    rcases Nat.lt_or_ge k bs.v.length with hlt | hge
    · rw [nilsTo_old hk2 hlt] at hv
      exact .inl ⟨(hr.get hk).1 (by omega), hv⟩
    · rw [nilsTo_new hk2 hge] at hv
      injection hv with hv
      exact .inr ⟨(hr.get hk).2 (by omega), hv.symm⟩
  have hA : ∀ b, Al S w0 bs st.bx.r b → b < w.heap.size → Al S w0 ⟨bs.b.take st2.bx.b.length, nilsTo st2.bx.r.length bs.v⟩ st2.bx.r b := fun b hb _ => ⟨hb.1, fun hm => hb.2.1 (hsub b hm), fun k r v hk hv hd ho => by
    rcases hrow k r v hk hv with ⟨h1, h2⟩ | ⟨_, rfl⟩
    · exact hb.2.2 k r v h1 h2 hd ho
    · cases ho⟩
  have hbx := h.boxes.ext (Ext.refl w) hA
  exact
    { ext := h.ext
      xs := h.xs
      boxes := ⟨by
          have := hbx.vars.take st2.bx.b.length
          rw [hb] at this
          exact this, All2.of_get (by simp [nilsTo]; omega) (fun k r v hk hv => by
          rcases hrow k r v hk hv with ⟨h1, h2⟩ | ⟨h1, rfl⟩
          · obtain ⟨v', hv', hm⟩ := hbx.rows.get h1
            rw [h2] at hv'
            injection hv' with hv'
            subst hv'
            exact hm
          · exact Rw.nil_mean h1)⟩
      nodup := h.nodup.sublist (List.take_sublist _ _)
      new := fun b hm => h.new b (hsub b hm)
      rnew := fun k r v b hk hv hd ho => by
        rcases hrow k r v hk hv with ⟨h1, h2⟩ | ⟨_, rfl⟩
        · obtain ⟨n1, n2⟩ := h.rnew k r v b h1 h2 hd ho
          exact ⟨n1, fun hm => n2 (hsub b hm)⟩
        · cases ho
      rdist := fun k k' r r' v v' b hk hk' hv hv' hd hd' hne ho ho' => by
        rcases hrow k r v hk hv with ⟨h1, h2⟩ | ⟨_, rfl⟩
        · rcases hrow k' r' v' hk' hv' with ⟨h3, h4⟩ | ⟨_, rfl⟩
          · exact h.rdist k k' r r' v v' b h1 h3 h2 h4 hd hd' hne ho ho'
          · cases ho'
        · cases ho
      slots := fun t => by
        rcases look_le (t := t) hs with e | ⟨e, hw, hn⟩
        · rw [e]; trivial
        · have := (h.slots t).ext (Ext.refl w) hA
          rw [e] at this
          generalize look t st2.sl = x at this hw hn
          cases x with
          | ptr k off =>
            obtain ⟨b, hb1, hb2⟩ := this
            have hk : k < st2.bx.b.length := Nat.le_of_ble_eq_true hw
            exact ⟨b, by simp only; rw [List.getElem?_take, if_pos hk]; exact hb1, hb2⟩
          | own k =>
            have hk : k < st2.bx.r.length := Nat.le_of_ble_eq_true hw
            show (nilsTo st2.bx.r.length bs.v)[k]? = some (a.tmps.getD t undef)
            have this' : (cond (Nat.blt k st.bx.r.length) (AV.own k) (AV.val (.slice none 0 0))).mean (Al S w0 ⟨bs.b.take st2.bx.b.length, nilsTo st2.bx.r.length bs.v⟩ st2.bx.r) bs w (a.tmps.getD t undef) := this
            cases hlt : Nat.blt k st.bx.r.length with
            | true =>
              rw [hlt] at this'
              have hkl : k < bs.v.length := by rw [← hlen]; exact Nat.le_of_ble_eq_true hlt
              rw [nilsTo_old hk hkl]
              exact this'
            | false =>
              rw [hlt] at this'
              have hkl : bs.v.length ≤ k := by
                rcases Nat.lt_or_ge k bs.v.length with h1 | h1
                · have : Nat.blt k st.bx.r.length = true := Nat.ble_eq_true_of_le (by omega)
                  rw [this] at hlt; cases hlt
                · exact h1
              rw [nilsTo_new hk hkl]
              have e : a.tmps.getD t undef = .slice none 0 0 := this'
              rw [e]
          | ownAt k s j =>
            have hk : k < st2.bx.r.length := Nat.le_of_ble_eq_true hw
            simp only [isOwnAtNew, Bool.not_eq_false'] at hn
            have this' : (cond (Nat.blt k st.bx.r.length) (AV.ownAt k s j) AV.any).mean (Al S w0 ⟨bs.b.take st2.bx.b.length, nilsTo st2.bx.r.length bs.v⟩ st2.bx.r) bs w (a.tmps.getD t undef) := this
            rw [hn] at this'
            have hkl : k < bs.v.length := by rw [← hlen]; exact Nat.le_of_ble_eq_true hn
            obtain ⟨b, n, c, h1, h2⟩ := this'
            exact ⟨b, n, c, by simp only; rw [nilsTo_old hk hkl]; exact h1, h2⟩
          | part k lo m o =>
            have hk : k < st2.bx.r.length := Nat.le_of_ble_eq_true hw
            simp only [isOwnAtNew, Bool.not_eq_false'] at hn
            have this' : (cond (Nat.blt k st.bx.r.length) (AV.part k lo m o) AV.any).mean (Al S w0 ⟨bs.b.take st2.bx.b.length, nilsTo st2.bx.r.length bs.v⟩ st2.bx.r) bs w (a.tmps.getD t undef) := this
            rw [hn] at this'
            have hkl : k < bs.v.length := by rw [← hlen]; exact Nat.le_of_ble_eq_true hn
            obtain ⟨b, n, c, c', h1, h2⟩ := this'
            exact ⟨b, n, c, c', by simp only; rw [nilsTo_old hk hkl]; exact h1, h2⟩
          | fresh t cs => cases hw
          | freshN e l => cases hw
          | _ => exact this
      plain := fun t => by
        rcases look_le (t := t) hs with e | ⟨e, hw, _⟩
        · rw [e]; rfl
        · generalize look t st2.sl = x at hw
          cases x <;> first | rfl | cases hw
      size := h.size
      defers := h.defers }

end
end Go.Gm
