/-
  The frame of all proofs of this seat, part G: operations whose order is open. Plain theorems; no condition.
-/
import Derived.Test.YtihmifpdnipdmaaCoreFb
set_option linter.all false
namespace Go.Gm
open Go.RowKit (Below)

def preds (o : Oper) : List Nat := (o.after.toList.filter (Region.binds .any)).map fun e => e.on

def isTail : Op → Bool
  | .store .. => true
  | .assign _ => true
  | .makeSlice .. => true
  | .call { callee := .builtin .append, .. } => true
  | .call { callee := .builtin .copy, .. } => true
  | _ => false

def flowN : List Oper → Nat
  | [] => 0
  | o :: l => cond (isTail o.op) 0 (flowN l + 1)

/-- Those that change memory. -/
def isHard : Op → Bool
  | .assign _ => false
  | x => isTail x
def flowM : List Oper → Nat
  | [] => 0
  | o :: l => cond (isHard o.op) 0 (flowM l + 1)

def predsAt (ops : Array Oper) (i : Nat) : List Nat := match ops[i]? with
  | some o => preds o
  | none => []

def reach (ops : Array Oper) : Nat → Nat → Nat → Bool
  | 0, i, j => (predsAt ops i).contains j
  | d + 1, i, j => (predsAt ops i).contains j || (predsAt ops i).any fun k => reach ops d k j

def distinct : List (Option Nat) → Bool
  | [] => true
  | none :: _ => false
  | some d :: l => !l.contains (some d) && distinct l

def flowChk (ops : Array Oper) (n : Nat) : Bool :=
  Nat.ble n ops.size &&
  (List.range ops.size).all (fun i => (predsAt ops i).all fun j => Nat.blt j i) &&
  (List.range ops.size).all (fun i => Nat.blt i n || (List.range i).all fun j => reach ops 5 i j) &&
  distinct ((ops.toList.take n).map fun o => o.dst)

abbrev Ent := Nat × Nat × AV

def lookR (ps : List Nat) (t : Nat) : List Ent → Option AV
  | [] => none
  | (j, u, v) :: l => cond (Nat.beq t u) (some (cond (ps.contains j && !v.isFresh) v .any)) (lookR ps t l)

def evalF (sl : List (Nat × AV)) (ds ps : List Nat) (rs : List Ent) : Operand → AV
  | .tmp t => match lookR ps t rs with
    | some v => v
    | none => cond (ds.contains t) .any (look t sl)
  | .const v => .val v
  | .func f => .val (.func (.func f) #[] #[])
  | _ => .any

/-- A slot that holds a row just made, seen by those that come after. -/
def rowAt (ps : List Nat) (t : Nat) : List Ent → Bool
  | [] => false
  | (j, u, v) :: l => cond (Nat.beq t u) (match v with
    | .freshN _ _ => ps.contains j
    | _ => false) (rowAt ps t l)
def copyOf (ps : List Nat) (rs : List Ent) : Op → Option Nat
  | .move (.tmp t) => cond (rowAt ps t rs) (some t) none
  | .assign (.tmp t) => cond (rowAt ps t rs) (some t) none
  | _ => none
theorem rowAt_mem {ps : List Nat} {t : Nat} : ∀ {rs : List Ent}, rowAt ps t rs = true → ∃ j y, (j, t, y) ∈ rs ∧ j ∈ ps
  | [], h => by cases h
  | (j, u, v) :: l, h => by
    unfold rowAt at h
    cases hb : Nat.beq t u with
    | true =>
      rw [hb] at h
      have e := Nat.eq_of_beq_eq_true hb
      subst e
      simp only [cond_true] at h
      split at h
      · exact ⟨j, _, List.mem_cons_self .., by simpa using h⟩
      · cases h
    | false =>
      rw [hb] at h
      obtain ⟨k, y, h1, h2⟩ := rowAt_mem (rs := l) h
      exact ⟨k, y, List.mem_cons_of_mem _ h1, h2⟩

def flowOp (E : Env) (st : St) (ds : List Nat) (o : Oper) (rs : List Ent) (K : AV → Prop) : Prop :=
  natsK (preds o) fun ps =>
  match makeOut E (evalF st.sl ds ps rs) o with
  | some (pre, e, l) => pre ∧ K (.freshN e l)
  | none => (match allocOut E (evalF st.sl ds ps rs) o.op with
    | some (t, cs) => forceCs cs fun cs => K (.fresh t cs)
    | none => (match copyOf ps rs o.op with
      | some t => K (.same t)
      | none => (match opOut E st.bx (evalF st.sl ds ps rs) o with
        | .ok x => (match x.isFresh || x.isSame with
          | true => False
          | false => forceV x K)
        | .val pre x => (match x.isFresh || x.isSame with
          | true => False
          | false => pre ∧ forceV x K)
        | .bad => False)))

/-- A slot that is known better. -/
def setRK : List Ent → Nat → AV → (List Ent → Prop) → Prop
  | [], _, _, K => K []
  | (j, u, x) :: l, t, v, K => cond (Nat.beq t u) (K ((j, u, v) :: l)) (setRK l t v fun l' => K ((j, u, x) :: l'))

def flowOps (E : Env) (st : St) (ds : List Nat) (gs : Nat → Option Tmp) : Nat → List Oper → List Ent → (List Ent → Prop) → Prop
  | _, [], rs, K => K rs
  | i, o :: os, rs, K => match o.dst, o.guard with
    | none, _ => False
    | some d, none => flowOp E st ds o rs (fun x => flowOps E st ds gs (i + 1) os ((i, d, x) :: rs) K)
    | some d, some (j, want) => (match gs j with
      | some g => natsK (preds o) fun ps => (match lookR ps g rs with
        | some (.r (.one (.b (.val (.bool b))))) =>
          (b = want ∧ setRK rs g (.val (.bool want)) fun rs => flowOp E st ds o rs (fun x => flowOps E st ds gs (i + 1) os ((i, d, x) :: rs) K)) ∨
          (b = !want ∧ setRK rs g (.val (.bool !want)) fun rs => flowOps E st ds gs (i + 1) os ((i, d, .val (.tuple #[])) :: rs) K)
        | some (.r (.one (.b (.val (.tuple _))))) => flowOps E st ds gs (i + 1) os ((i, d, .val (.tuple #[])) :: rs) K
        | _ => False)
      | none => False)

def settle : List Ent → St → St
  | [], st => st
  | (_, t, x) :: l, st => match x with
    | .fresh ty cs => ⟨(t, .ptr (settle l st).bx.b.length 0) :: (settle l st).sl, ⟨(settle l st).bx.b ++ [(ty, cs)], (settle l st).bx.r⟩⟩
    | .freshN e ll => ⟨(t, .own (settle l st).bx.r.length) :: (settle l st).sl, ⟨(settle l st).bx.b, (settle l st).bx.r ++ [.n e ll]⟩⟩
    | .same u => ⟨(t, cond (l.any fun e => Nat.beq u e.2.1) (look u (settle l st).sl) .any) :: (settle l st).sl, (settle l st).bx⟩
    | x => ⟨(t, x) :: (settle l st).sl, (settle l st).bx⟩

def settleK : List Ent → St → (St → Prop) → Prop
  | [], st, K => K st
  | (_, t, x) :: l, st, K => settleK l st fun st' => withS st' fun sl b r => match x with
    | .fresh ty cs => appK b (ty, cs) fun b' => K ⟨(t, .ptr b.length 0) :: sl, ⟨b', r⟩⟩
    | .freshN e ll => appK r (.n e ll) fun r' => K ⟨(t, .own r.length) :: sl, ⟨b, r'⟩⟩
    | .same u => forceV (cond (l.any fun e => Nat.beq u e.2.1) (look u sl) .any) fun v => K ⟨(t, v) :: sl, ⟨b, r⟩⟩
    | x => K ⟨(t, x) :: sl, ⟨b, r⟩⟩
theorem settleK_eq : ∀ (l : List Ent) (st : St) (K : St → Prop), settleK l st K = K (settle l st)
  | [], _, _ => rfl
  | (_, t, x) :: l, st, K => by
    unfold settleK settle
    rw [settleK_eq l]
    rw [withS_eq]
    cases x <;> first | rfl | (simp only [appK_eq]; done) | (simp only [forceV_eq])

def dsOf (l : List Oper) : List Nat := l.filterMap fun o => o.dst

/-- Where a slot's value comes from. -/
def srcOf (t : Nat) : List Oper → Option Operand
  | [] => none
  | o :: l => match o.dst with
    | some d => cond (Nat.beq d t) (match o.op with
      | .move x => some x
      | .slice _ x _ _ _ => some x
      | _ => none) (srcOf t l)
    | none => srcOf t l
def chase (ops : List Oper) : Nat → Operand → Operand
  | 0, y => y
  | n + 1, .tmp t => match srcOf t ops with
    | some x => chase ops n x
    | none => .tmp t
  | _, y => y
/-- All that the operations hand on. -/
def frzList (ops : List Oper) : List Oper → List Operand
  | [] => []
  | o :: l => ((frzOps o.op).map (chase ops 3)) ++ frzList ops l

/-- Operations whose order is open: those ahead of n in whatever order, the others in their own. -/
def drawAt (E : Env) (ops : Array Oper) (n : Nat) (st : St) (K : St → Prop) : Prop :=
  natsK (dsOf (ops.toList.take n)) fun ds => flowOps E st ds (dstOf ops) 0 (ops.toList.take n) [] fun rs =>
    settleK rs st fun st' => seqOps E (dstOf ops) (ops.toList.drop n) st' K

/-- The same, where one operation ahead of n may come behind n. -/
def flowChkL (ops : Array Oper) (n e : Nat) : Bool :=
  Nat.blt n ops.size && Nat.blt e n &&
  (List.range ops.size).all (fun i => (predsAt ops i).all fun j => Nat.blt j i) &&
  (List.range ops.size).all (fun i => Nat.ble i n || (List.range i).all fun j => reach ops 5 i j) &&
  (List.range n).all (fun j => Nat.beq j e || reach ops 5 n j) &&
  distinct ((ops.toList.take n).map fun o => o.dst)
/-- The first operation that n does not wait for. -/
def lateOf (ops : Array Oper) (n : Nat) : List Nat → Nat
  | [] => 0
  | j :: l => cond (reach ops 5 n j) (lateOf ops n l) j
def dropE (e : Nat) : List Ent → List Ent
  | [] => []
  | (i, d, x) :: l => cond (Nat.beq i e) (dropE e l) ((i, d, x) :: dropE e l)
def keysOf : List (Nat × AV) → List Nat
  | [] => []
  | (t, _) :: l => t :: keysOf l
def looks (sl : List (Nat × AV)) : List Nat → List AV
  | [] => []
  | t :: l => look t sl :: looks sl l
/-- Two states that say the same. -/
def EqS (st st2 : St) : Prop := (looks st.sl (keysOf st2.sl), st.bx) = (looks st2.sl (keysOf st2.sl), st2.bx)

def dropK (e : Nat) : List Ent → (List Ent → Prop) → Prop
  | [], K => K []
  | (i, d, x) :: l, K => cond (Nat.beq i e) (dropK e l K) (dropK e l fun l' => K ((i, d, x) :: l'))
theorem dropK_eq (e : Nat) : ∀ (l : List Ent) (K : List Ent → Prop), dropK e l K = K (dropE e l)
  | [], _ => rfl
  | (i, d, x) :: l, K => by
    unfold dropK dropE
    cases Nat.beq i e with
    | true => exact dropK_eq e l K
    | false => exact dropK_eq e l _

/-- Those ahead of n in whatever order, e behind n or ahead of it. -/
def drawAtL (E : Env) (ops : Array Oper) (n e : Nat) (st : St) (K : St → Prop) : Prop :=
  match ops[n]?, ops[e]? with
  | some s, some o => (match s.guard, o.guard, o.dst with
    | none, none, some d => natsK (dsOf (ops.toList.take n)) fun ds => flowOps E st ds (dstOf ops) 0 (ops.toList.take n) [] fun rs =>
        settleK rs st fun st' => seqOps E (dstOf ops) (ops.toList.drop n) st' fun stm =>
          (withS st fun sl b r => dropK e rs fun rs' => settleK rs' ⟨(d, .any) :: sl, ⟨b, r⟩⟩ fun st'' => seqOps E (dstOf ops) (s :: o :: ops.toList.drop (n + 1)) st'' fun st3 => EqS st3 stm) ∧ K stm
    | _, _, _ => False)
  | _, _ => False

/-- A box that was just made, by its slot. -/
def freshAt (ps : List Nat) (t : Nat) : List Ent → Option (TypeId × List CV)
  | [] => none
  | (j, u, v) :: l => cond (Nat.beq t u) (match v with
    | .fresh ty cs => cond (ps.contains j) (some (ty, cs)) none
    | _ => none) (freshAt ps t l)
def onlyR : AV → AV
  | .r x => .r x
  | _ => .any
/-- The slot p as the one box. -/
def rhoS (p : Nat) (f : Operand → AV) : Operand → AV
  | .tmp t => cond (Nat.beq t p) (.ptr 0 0) (onlyR (f (.tmp t)))
  | x => onlyR (f x)
/-- A store into a box that was just made. -/
def storeS (E : Env) (st : St) (ds : List Nat) (RS : List Ent) (o : Oper) : Option (Nat × List CV) := match o.op with
  | .store t (.tmp p) y => (match freshAt (preds o) p RS with
    | some (ty, cs) => (match storeOut E ⟨[(ty, cs)], []⟩ (rhoS p (evalF st.sl ds (preds o) RS)) (.store t (.tmp p) y) with
      | some (k, off, vs) => cond (Nat.beq k 0 && Nat.beq off 0 && Nat.beq vs.length cs.length) (some (p, vs)) none
      | none => none)
    | none => none)
  | _ => none
def storesS (E : Env) (st : St) (ds : List Nat) (RS : List Ent) : Nat → List Oper → Option (List (Nat × Nat × List CV))
  | _, [] => some []
  | i, o :: os => match storeS E st ds RS o, storesS E st ds RS (i + 1) os with
    | some (p, vs), some l => some ((i, p, vs) :: l)
    | _, _ => none
/-- What a box holds, by the stores that are done. -/
def pickS : List (Nat × Nat × List CV) → (Nat → Bool) → Nat → List CV → List CV
  | [], _, _, cs => cs
  | (i, p, vs) :: l, L, d, cs => cond (Nat.beq p d && L i) vs (pickS l L d cs)
def putX (SD : List (Nat × Nat × List CV)) (L : Nat → Bool) (d : Nat) : AV → AV
  | .fresh t cs => .fresh t (pickS SD L d cs)
  | x => x
def putE (SD : List (Nat × Nat × List CV)) (L : Nat → Bool) (e : Ent) : Ent := (e.1, e.2.1, putX SD L e.2.1 e.2.2)
def putK (SD : List (Nat × Nat × List CV)) : List Ent → (List Ent → Prop) → Prop
  | [], K => K []
  | (j, d, x) :: l, K => match x with
    | .fresh t cs => forceCs (pickS SD (fun _ => true) d cs) fun cs' => putK SD l fun l' => K ((j, d, .fresh t cs') :: l')
    | x => putK SD l fun l' => K ((j, d, x) :: l')
theorem putK_eq (SD : List (Nat × Nat × List CV)) : ∀ (l : List Ent) (K : List Ent → Prop), putK SD l K = K (l.map (putE SD fun _ => true))
  | [], _ => rfl
  | (j, d, x) :: l, K => by
    unfold putK
    cases x <;> simp only [forceCs_eq, putK_eq SD l] <;> rfl
def allocd (ops : List Oper) (p : Nat) : Bool := ops.any fun o => match o.dst, o.op with
  | some d, .alloc _ => Nat.beq d p
  | _, _ => false
def isStoreS (pre : List Oper) (o : Oper) : Bool := match o.dst, o.guard, o.op with
  | none, none, .store _ (.tmp p) _ => allocd pre p
  | _, _, _ => false
def flowChkS (ops : Array Oper) (n : Nat) : Bool :=
  Nat.ble n ops.size &&
  (List.range ops.size).all (fun i => (predsAt ops i).all fun j => Nat.blt j i) &&
  (ops.toList.drop n).all (isStoreS (ops.toList.take n)) &&
  distinct ((ops.toList.take n).map fun o => o.dst)
/-- Operations whose order is open, and stores into boxes that they make. -/
def drawAtS (E : Env) (ops : Array Oper) (n : Nat) (st : St) (K : St → Prop) : Prop :=
  natsK (dsOf (ops.toList.take n)) fun ds => flowOps E st ds (dstOf ops) 0 (ops.toList.take n) [] fun rs =>
    match storesS E st ds rs n (ops.toList.drop n) with
    | some SD => distinct (SD.map fun x => some x.2.1) = true ∧ putK SD rs fun rs' => settleK rs' st K
    | none => False

/-- For each of a list. -/
def allP : List Nat → (Nat → Prop) → Prop
  | [], _ => True
  | x :: l, p => p x ∧ allP l p
theorem allP_mem {p : Nat → Prop} : ∀ {l : List Nat}, allP l p → ∀ x, x ∈ l → p x
  | [], _, x, hx => by cases hx
  | y :: l, h, x, hx => by
    rcases List.mem_cons.1 hx with rfl | hx
    · exact h.1
    · exact allP_mem h.2 x hx
/-- What may come next. -/
def rdy (ops : Array Oper) (done : List Nat) : List Nat := (List.range ops.size).filter fun i => !done.contains i && (predsAt ops i).all fun j => done.contains j
/-- All orders, one by one. -/
def expl (E : Env) (ops : Array Oper) : Nat → List Nat → St → (St → Prop) → Prop
  | 0, done, st, K => rdy ops done = [] ∧ K st
  | f + 1, done, st, K => match rdy ops done with
    | [] => K st
    | r :: rs => allP (r :: rs) fun i => match ops[i]? with
      | some o => o.guard.isNone = true ∧ doOp E o st (fun st' => expl E ops f (i :: done) st' K)
      | none => False
/-- All orders, one by one; then what they have in common. -/
def drawX (E : Env) (ops : Array Oper) (st : St) (K : St → Prop) : Prop := ∃ stm, expl E ops ops.size [] st (fun st' => Le st' stm) ∧ K stm

def drawOps1 (E : Env) (ops : Array Oper) (st : St) (K : St → Prop) : Prop := match flowChk ops (flowN ops.toList) with
  | true => drawAt E ops (flowN ops.toList) st K
  | false => (match flowChk ops (flowM ops.toList) with
    | true => drawAt E ops (flowM ops.toList) st K
    | false => (match flowChkL ops (flowM ops.toList) (lateOf ops (flowM ops.toList) (List.range (flowM ops.toList))) with
      | true => drawAtL E ops (flowM ops.toList) (lateOf ops (flowM ops.toList) (List.range (flowM ops.toList))) st K
      | false => (match flowChkS ops (flowM ops.toList) with
        | true => drawAtS E ops (flowM ops.toList) st K
        | false => drawX E ops st K)))

def drawOps (E : Env) (ops : Array Oper) (st : St) (K : St → Prop) : Prop := withS st fun sl b r => match r with
  | [] => drawOps1 E ops ⟨sl, ⟨b, []⟩⟩ K
  | q :: r => frzAllK (frzList ops.toList ops.toList) ⟨sl, ⟨b, q :: r⟩⟩ fun st => drawOps1 E ops st K

section
variable {P : Program} {E : Env} {S X : Nat → Prop} {w0 : World} {nt : Nat} {bs : An}

theorem doOp_some {o : Oper} {st : St} {K : St → Prop} (h : doOp E o st K) : ∃ st', K st' := by
  unfold doOp at h
  rw [frzAllK_eq, doOp1_eq] at h
  unfold doOp1P at h
  split at h
  · exact ⟨_, h⟩
  · exact h.elim
  · split at h
    · split at h
      · exact ⟨_, h⟩
      · exact h.elim
    · exact h.elim
    · split at h
      · exact ⟨_, h.2⟩
      · exact ⟨_, h.2⟩
      · exact ⟨_, h.2⟩
      · exact ⟨_, h.2⟩
      · exact ⟨_, h.2⟩
      · exact ⟨_, h.2⟩
      · exact h.elim
      · exact h.elim
      · split at h
        · split at h
          · exact h.elim
          · exact ⟨_, h⟩
        · split at h
          · exact h.elim
          · exact ⟨_, h.2⟩
        · exact h.elim
theorem seqOps_some {gs : Nat → Option Tmp} : ∀ {l : List Oper} {st : St} {K : St → Prop}, seqOps E gs l st K → ∃ st', K st'
  | [], st, K, h => ⟨st, h⟩
  | o :: l, st, K, h => by
    unfold seqOps at h
    split at h
    · obtain ⟨st', h⟩ := doOp_some h
      exact seqOps_some h
    · split at h
      · rw [withS_eq] at h
        split at h
        · rename_i b hb
          rcases h with ⟨e, h⟩ | ⟨e, h⟩
          · subst e
            rw [setSK_self _ hb] at h
            obtain ⟨st', h⟩ := doOp_some h
            exact seqOps_some h
          · subst e
            rw [setSK_self _ hb] at h
            exact seqOps_some h
        · exact seqOps_some h
        · exact h.elim
      · exact h.elim
theorem look_none {t : Nat} : ∀ {l : List (Nat × AV)}, t ∉ keysOf l → look t l = .any
  | [], _ => rfl
  | (u, v) :: l, h => by
    unfold look
    cases hb : Nat.beq t u with
    | true =>
      have e := Nat.eq_of_beq_eq_true hb
      subst e
      exact absurd (List.mem_cons_self ..) h
    | false => exact look_none (fun hm => h (List.mem_cons_of_mem _ hm))
theorem looks_eq {a b : List (Nat × AV)} : ∀ {l : List Nat}, looks a l = looks b l → ∀ t, t ∈ l → look t a = look t b
  | [], _, t, h => by cases h
  | u :: l, h, t, ht => by
    simp only [looks, List.cons.injEq] at h
    rcases List.mem_cons.1 ht with rfl | ht
    · exact h.1
    · exact looks_eq h.2 t ht
theorem Has.alike {st st2 : St} {a : Act} {w : World} {bs : An} (h : Has S X w0 nt st a w bs) (he : EqS st st2) : Has S X w0 nt st2 a w bs := by
  unfold EqS at he
  simp only [Prod.mk.injEq] at he
  obtain ⟨h1, h2⟩ := he
  have hl : ∀ t, look t st2.sl = .any ∨ look t st2.sl = look t st.sl := fun t => by
    by_cases ht : t ∈ keysOf st2.sl
    · exact .inr (looks_eq h1 t ht).symm
    · exact .inl (look_none ht)
  exact
    { ext := h.ext
      xs := h.xs
      boxes := by rw [← h2]; exact h.boxes
      nodup := h.nodup
      new := h.new
      rnew := by rw [← h2]; exact h.rnew
      rdist := by rw [← h2]; exact h.rdist
      slots := fun t => by
        rcases hl t with e | e
        · rw [e]; trivial
        · rw [e, ← h2]; exact h.slots t
      plain := fun t => by
        rcases hl t with e | e
        · rw [e]; rfl
        · rw [e]; exact h.plain t
      size := h.size
      defers := h.defers }
theorem dropE_mem {e i d : Nat} {x : AV} : ∀ {l : List Ent}, (i, d, x) ∈ dropE e l ↔ (i, d, x) ∈ l ∧ i ≠ e
  | [] => by simp [dropE]
  | (j, u, y) :: l => by
    unfold dropE
    cases hb : Nat.beq j e with
    | true =>
      have := Nat.eq_of_beq_eq_true hb
      subst this
      simp only [cond_true, dropE_mem (l := l), List.mem_cons, Prod.mk.injEq]
      constructor
      · rintro ⟨h1, h2⟩; exact ⟨.inr h1, h2⟩
      · rintro ⟨h1 | h1, h2⟩
        · exact absurd h1.1 h2
        · exact ⟨h1, h2⟩
    | false =>
      have hne : j ≠ e := fun h => by rw [h, Nat.beq_refl] at hb; cases hb
      simp only [cond_false, dropE_mem (l := l), List.mem_cons, Prod.mk.injEq]
      constructor
      · rintro (h1 | ⟨h1, h2⟩)
        · exact ⟨.inl h1, by rw [h1.1]; exact hne⟩
        · exact ⟨.inr h1, h2⟩
      · rintro ⟨h1 | h1, h2⟩
        · exact .inl h1
        · exact .inr ⟨h1, h2⟩
theorem dropE_sub (e : Nat) : ∀ (l : List Ent), (dropE e l).Sublist l
  | [] => List.Sublist.refl _
  | (j, u, y) :: l => by
    unfold dropE
    cases Nat.beq j e with
    | true => exact (dropE_sub e l).cons _
    | false => exact (dropE_sub e l).cons_cons _

theorem setRK_self {ps : List Nat} {t : Nat} {b : Bool} : ∀ {rs : List Ent} (K : List Ent → Prop), lookR ps t rs = some (.val (.bool b)) → setRK rs t (.val (.bool b)) K = K rs
  | [], _, h => by cases h
  | (j, u, x) :: l, K, h => by
    unfold lookR at h
    unfold setRK
    cases hb : Nat.beq t u with
    | true =>
      rw [hb] at h
      simp only [cond_true, Option.some.injEq] at h ⊢
      cases hc : (ps.contains j && !x.isFresh) with
      | true => rw [hc] at h; simp only [cond_true] at h; rw [h]
      | false => rw [hc] at h; cases h
    | false =>
      rw [hb] at h
      simp only [cond_false] at h ⊢
      rw [setRK_self _ h]

theorem lookR_some {ps : List Nat} {t : Nat} {v : AV} : ∀ {rs : List Ent}, lookR ps t rs = some v → v = .any ∨ ∃ j, (j, t, v) ∈ rs ∧ j ∈ ps ∧ v.isFresh = false
  | [], h => by cases h
  | (j, u, x) :: l, h => by
    unfold lookR at h
    cases hb : Nat.beq t u with
    | true =>
      rw [hb] at h
      have e := Nat.eq_of_beq_eq_true hb
      subst e
      simp only [cond_true, Option.some.injEq] at h
      cases hc : (ps.contains j && !x.isFresh) with
      | true =>
        rw [hc] at h
        simp only [cond_true] at h
        subst h
        simp only [Bool.and_eq_true, List.contains_iff_mem, Bool.not_eq_true'] at hc
        exact .inr ⟨j, List.mem_cons_self .., hc.1, hc.2⟩
      | false => rw [hc] at h; exact .inl h.symm
    | false =>
      rw [hb] at h
      rcases lookR_some h with h | ⟨k, h1, h2⟩
      · exact .inl h
      · exact .inr ⟨k, List.mem_cons_of_mem _ h1, h2⟩

theorem lookR_none {ps : List Nat} {t : Nat} : ∀ {rs : List Ent}, lookR ps t rs = none → ∀ j x, (j, t, x) ∉ rs
  | [], _, _, _ => by simp
  | (j, u, x) :: l, h, k, y => by
    unfold lookR at h
    cases hb : Nat.beq t u with
    | true => rw [hb] at h; cases h
    | false =>
      rw [hb] at h
      intro hm
      rcases List.mem_cons.1 hm with hm | hm
      · injection hm with _ hm
        injection hm with hm _
        subst hm
        rw [Nat.beq_refl] at hb
        cases hb
      · exact lookR_none h k y hm

/-- One operation, whatever has come before it. -/
def StepOk (P : Program) (ops : Array Oper) (nt : Nat) (bs : An) (st : St) (ds : List Nat) (rs : List Ent) (i d : Nat) (x : AV) : Prop :=
  ∃ o, ops[i]? = some o ∧ o.dst = some d ∧ ∀ (A : Nat → Prop) (a : Act) (w : World), Boxes A w bs st.bx → (∀ t, t ∉ ds → (look t st.sl).mean A bs w (a.tmps.getD t undef)) → (∀ t, (look t st.sl).isFresh = false) →
    (∀ j u y, (j, u, y) ∈ rs → j ∈ preds o → y.isFresh = false → y.mean A bs w (a.tmps.getD u undef)) → a.tmps.size = nt →
    ∀ (KK : Act → World → Prop) (Q : Exit → Act → World → Prop),
      (x.isFresh = false → x.isSame = false → ∀ v w', Fits A bs w x v w' → KK (a.put (some d) v) w') →
      (∀ t cs us, x = .fresh t cs → All2 (CV.mean A w) cs us → KK (a.put (some d) (.pointer (some ⟨w.heap.size, 0, none⟩))) (w.alloc (.cells us.toArray t))) →
      (∀ e l v w', x = .freshN e l → Ext w w' → (AV.freshN e l).mean A bs w' v → (∀ b, v.ownBlock = some b → w.heap.size ≤ b) → KK (a.put (some d) v) w') →
      (∀ t, x = .same t → (∃ j y, (j, t, y) ∈ rs ∧ j ∈ preds o) → KK (a.put (some d) (a.tmps.getD t undef)) w) → wpOp P ops Q i KK a w

theorem StepOk.more {ops : Array Oper} {st : St} {ds : List Nat} {rs RS : List Ent} {i d : Nat} {x : AV} (h : StepOk P ops nt bs st ds rs i d x) (hs : ∀ e, e ∈ rs → e ∈ RS) : StepOk P ops nt bs st ds RS i d x := by
  obtain ⟨o, ho, hd, h⟩ := h
  exact ⟨o, ho, hd, fun A a w hb hs1 hs2 hm hsz KK Q k1 k2 k3 k4 => h A a w hb hs1 hs2 (fun j u y hj => hm j u y (hs _ hj)) hsz KK Q k1 k2 k3 (fun t ht ⟨j, y, h1, h2⟩ => k4 t ht ⟨j, y, hs _ h1, h2⟩)⟩

theorem evalF_mean {st : St} {ds ps : List Nat} {rs : List Ent} {A : Nat → Prop} {a : Act} {w : World} (h1 : ∀ t, t ∉ ds → (look t st.sl).mean A bs w (a.tmps.getD t undef))
    (h2 : ∀ j u y, (j, u, y) ∈ rs → j ∈ ps → y.isFresh = false → y.mean A bs w (a.tmps.getD u undef)) (x : Operand) : (evalF st.sl ds ps rs x).mean A bs w (a.eval x) := by
  cases x with
  | tmp t =>
    simp only [evalF]
    split
    · rename_i v hv
      rcases lookR_some hv with rfl | ⟨j, hj1, hj2, hj3⟩
      · trivial
      · exact h2 j t v hj1 hj2 hj3
    · cases hc : ds.contains t with
      | true => trivial
      | false =>
        simp only [cond_false]
        exact h1 t (by simpa using hc)
  | const v => rfl
  | global g => trivial
  | func f => rfl

theorem flowOp_step (hE : E.Ok P) {ops : Array Oper} {st : St} {ds : List Nat} {rs : List Ent} {i d : Nat} {o : Oper} {K : AV → Prop} (ho : ops[i]? = some o) (hd : o.dst = some d) (h : flowOp E st ds o rs K)
    (hw : ∀ (A : Nat → Prop) (a : Act) (w : World), (∀ j u y, (j, u, y) ∈ rs → j ∈ preds o → y.isFresh = false → y.mean A bs w (a.tmps.getD u undef)) → a.tmps.size = nt → Region.wanted o (yielded ops a.tmps) = true) :
    ∃ x, K x ∧ StepOk P ops nt bs st ds rs i d x := by
  unfold flowOp at h
  rw [natsK_eq] at h
  simp only [forceV_eq, forceCs_eq] at h
  split at h
  · rename_i pre e l ha
    refine ⟨_, h.2, o, ho, hd, fun A a w hb hs1 _ hm hsz KK Q _ _ hmk _ => ?_⟩
    unfold wpOp
    rw [ho]
    simp only
    rw [if_pos (hw A a w hm hsz)]
    refine .inl (makeOut_ok (P := P) (S := A) (bs := bs) hE (evalF_mean hs1 hm) ha h.1 KK Q fun v w' he hv hnew => ?_)
    rw [hd]
    exact hmk e l v w' rfl he hv hnew
  · split at h
    · rename_i t cs ha
      refine ⟨_, h, o, ho, hd, fun A a w hb hs1 _ hm hsz KK Q _ hfr _ _ => ?_⟩
      obtain ⟨us, hus, hwp⟩ := allocOut_ok (P := P) (S := A) (bs := bs) (w := w) (a := a) hE (evalF_mean hs1 hm) ha
      unfold wpOp
      rw [ho]
      simp only
      rw [if_pos (hw A a w hm hsz)]
      refine .inl (hwp KK Q ?_)
      rw [hd]
      exact hfr t cs us rfl hus
    · split at h
      · rename_i t hcp
        refine ⟨_, h, o, ho, hd, fun A a w hb hs1 _ hm hsz KK Q _ _ _ hsm => ?_⟩
        unfold wpOp
        rw [ho]
        simp only
        rw [if_pos (hw A a w hm hsz)]
        have hrow : rowAt (preds o) t rs = true ∧ (o.op = .move (.tmp t) ∨ o.op = .assign (.tmp t)) := by
          unfold copyOf at hcp
          split at hcp
          · rename_i t' he
            cases hr : rowAt (preds o) t' rs with
            | true => rw [hr] at hcp; injection hcp with hcp; subst hcp; exact ⟨hr, .inl he⟩
            | false => rw [hr] at hcp; cases hcp
          · rename_i t' he
            cases hr : rowAt (preds o) t' rs with
            | true => rw [hr] at hcp; injection hcp with hcp; subst hcp; exact ⟨hr, .inr he⟩
            | false => rw [hr] at hcp; cases hcp
          · cases hcp
        have hsay : Says P o a w (fun v w' => v = a.tmps.getD t undef ∧ w' = w) := by
          obtain ⟨dst, op, type, pos, after, guard⟩ := o
          rcases hrow.2 with e | e
          · simp only at e
            subst e
            exact says_value (v := a.eval (.tmp t)) (w' := w) (by simp [execOp]) ⟨rfl, rfl⟩
          · simp only at e
            subst e
            exact says_value (v := a.eval (.tmp t)) (w' := w) (by simp [execOp]) ⟨rfl, rfl⟩
        refine .inl (hsay KK Q fun v w' hv => ?_)
        obtain ⟨rfl, rfl⟩ := hv
        rw [hd]
        exact hsm t rfl (rowAt_mem hrow.1)
      have fin : ∀ x : AV, x.isFresh = false → x.isSame = false → (∀ (A : Nat → Prop) (a : Act) (w : World), Boxes A w bs st.bx → (∀ y, (evalF st.sl ds (preds o) rs y).mean A bs w (a.eval y)) → Says P o a w (Fits A bs w x)) → StepOk P ops nt bs st ds rs i d x := by
        intro x hx hx2 hsay
        refine ⟨o, ho, hd, fun A a w hb hs1 _ hm hsz KK Q hK _ _ _ => ?_⟩
        unfold wpOp
        rw [ho]
        simp only
        rw [if_pos (hw A a w hm hsz)]
        refine .inl (hsay A a w hb (evalF_mean hs1 hm) KK Q fun v w' hv => ?_)
        rw [hd]
        exact hK hx hx2 v w' hv
      split at h
      · rename_i x hx
        split at h
        · exact h.elim
        · rename_i hf
          simp only [Bool.or_eq_false_iff] at hf
          refine ⟨x, h, fin x hf.1 hf.2 fun A a w hb hρ => ?_⟩
          have good := opOut_good (P := P) hE hb hρ o
          rw [hx] at good
          exact good
      · rename_i pre x hx
        split at h
        · exact h.elim
        · rename_i hf
          simp only [Bool.or_eq_false_iff] at hf
          refine ⟨x, h.2, fin x hf.1 hf.2 fun A a w hb hρ => ?_⟩
          have good := opOut_good (P := P) hE hb hρ o
          rw [hx] at good
          exact good h.1
      · exact h.elim

theorem flowOps_steps (hE : E.Ok P) {ops : Array Oper} {st : St} {ds : List Nat} (hg : ∀ j d, dstOf ops j = some d → d < nt) : ∀ (l : List Oper) (i : Nat) (rs : List Ent) (K : List Ent → Prop), (∀ k, l[k]? = none ∨ l[k]? = ops[i + k]?) →
    flowOps E st ds (dstOf ops) i l rs K → ∃ news, K (news ++ rs) ∧ news.map (fun e => e.1) = (List.range' i l.length).reverse ∧ ∀ e, e ∈ news → StepOk P ops nt bs st ds (news ++ rs) e.1 e.2.1 e.2.2
  | [], i, rs, K, _, h => ⟨[], h, rfl, fun e he => by cases he⟩
  | o :: l, i, rs, K, hl, h => by
    have ho : ops[i]? = some o := by
      rcases hl 0 with h0 | h0
      · cases h0
      · simpa using h0.symm
    have hl' : ∀ k, l[k]? = none ∨ l[k]? = ops[i + 1 + k]? := fun k => by
      have := hl (k + 1)
      rw [List.getElem?_cons_succ, show i + (k + 1) = i + 1 + k by omega] at this
      exact this
    have fin : ∀ (d : Nat) (x : AV), flowOps E st ds (dstOf ops) (i + 1) l ((i, d, x) :: rs) K → StepOk P ops nt bs st ds rs i d x →
        ∃ news, K (news ++ rs) ∧ news.map (fun e => e.1) = (List.range' i (o :: l).length).reverse ∧ ∀ e, e ∈ news → StepOk P ops nt bs st ds (news ++ rs) e.1 e.2.1 e.2.2 := by
      intro d x hx hstep
      obtain ⟨news, hK, hidx, hall⟩ := flowOps_steps hE hg l (i + 1) ((i, d, x) :: rs) K hl' hx
      refine ⟨news ++ [(i, d, x)], by simpa using hK, ?_, ?_⟩
      · rw [List.map_append, hidx, List.length_cons, List.range'_succ, List.reverse_cons]
        rfl
      · intro e he
        rcases List.mem_append.1 he with he | he
        · have := hall e he
          simpa using this
        · simp only [List.mem_singleton] at he
          subst he
          exact hstep.more (fun e he => List.mem_append_right _ he)
    unfold flowOps at h
    split at h
    · exact h.elim
    · rename_i d hd hgd
      obtain ⟨x, hx, hstep⟩ := flowOp_step (P := P) (nt := nt) (bs := bs) hE ho hd h (fun A a w _ _ => by simp [Region.wanted, hgd])
      exact fin d x hx hstep
    · rename_i d j want hd hgd
      split at h
      · rename_i g hgj
        rw [natsK_eq] at h
        split at h
        · rename_i b hb
          have hyield : ∀ (A : Nat → Prop) (a : Act) (w : World), (∀ j u y, (j, u, y) ∈ rs → j ∈ preds o → y.isFresh = false → y.mean A bs w (a.tmps.getD u undef)) → a.tmps.size = nt →
              Region.wanted o (yielded ops a.tmps) = (b == want) := by
            intro A a w hm hsz
            have hslot : a.tmps.getD g undef = .bool b := by
              rcases lookR_some hb with h0 | ⟨k, h1, h2, h3⟩
              · cases h0
              · exact hm k g _ h1 h2 h3
            have hgl : g < a.tmps.size := by rw [hsz]; exact hg j g hgj
            have hy : yielded ops a.tmps j = some b := by
              unfold yielded
              unfold dstOf at hgj
              rw [hgj]
              simp only [Option.bind_some]
              rw [Array.getElem?_eq_getElem hgl]
              have : a.tmps[g] = .bool b := by
                rw [← hslot]; simp [Array.getD_eq_getD_getElem?, hgl]
              rw [this]
            simp only [Region.wanted, hgd, hy]
            cases b <;> cases want <;> rfl
          rcases h with ⟨hbw, h⟩ | ⟨hbw, h⟩
          · subst hbw
            rw [setRK_self _ hb] at h
            obtain ⟨x, hx, hstep⟩ := flowOp_step (P := P) (nt := nt) (bs := bs) hE ho hd h (fun A a w hm hsz => by rw [hyield A a w hm hsz]; simp)
            exact fin d x hx hstep
          · subst hbw
            rw [setRK_self _ hb] at h
            refine fin d (.val (.tuple #[])) h ⟨o, ho, hd, fun A a w _ _ _ hm hsz KK Q hK _ _ _ => ?_⟩
            unfold wpOp
            rw [ho]
            simp only
            rw [if_neg (by rw [hyield A a w hm hsz]; cases want <;> simp), hd]
            exact hK rfl rfl undef w ⟨Ext.refl w, rfl⟩
        · rename_i u hb
          refine fin d (.val (.tuple #[])) h ⟨o, ho, hd, fun A a w _ _ _ hm hsz KK Q hK _ _ _ => ?_⟩
          have hslot : a.tmps.getD g undef = .tuple u := by
            rcases lookR_some hb with h0 | ⟨k, h1, h2, h3⟩
            · cases h0
            · exact hm k g _ h1 h2 h3
          have hgl : g < a.tmps.size := by rw [hsz]; exact hg j g hgj
          have hy : yielded ops a.tmps j = none := by
            unfold yielded
            unfold dstOf at hgj
            rw [hgj]
            simp only [Option.bind_some]
            rw [Array.getElem?_eq_getElem hgl]
            have : a.tmps[g] = .tuple u := by
              rw [← hslot]; simp [Array.getD_eq_getD_getElem?, hgl]
            rw [this]
          have hwant : Region.wanted o (yielded ops a.tmps) = false := by
            simp only [Region.wanted, hgd, hy]
            cases want <;> rfl
          unfold wpOp
          rw [ho]
          simp only
          rw [if_neg (by rw [hwant]; simp), hd]
          exact hK rfl rfl undef w ⟨Ext.refl w, rfl⟩
        · exact h.elim
      · exact h.elim

end
end Go.Gm
