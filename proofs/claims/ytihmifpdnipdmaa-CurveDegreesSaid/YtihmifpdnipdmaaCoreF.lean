/-
  The frame of all proofs of this seat, part F: operations one behind the other. Plain theorems; no condition.
-/
import Derived.Test.YtihmifpdnipdmaaCoreX
set_option linter.all false
namespace Go.Gm
open Go.RowKit (Below)

/-- What is known of the slots and of the boxes of the call. -/
structure St where
  sl : List (Nat × AV)
  bx : Bxs

def look (t : Nat) : List (Nat × AV) → AV
  | [] => .any
  | (u, v) :: l => cond (Nat.beq t u) v (look t l)

def evalO (sl : List (Nat × AV)) : Operand → AV
  | .tmp t => look t sl
  | .const v => .val v
  | .func f => .val (.func (.func f) #[] #[])
  | _ => .any

/-- Blocks that neither a box nor a row of the call is: those that were allowed, and new ones. -/
def Al (S : Nat → Prop) (w0 : World) (bs : An) (rs : List Rw) (b : Nat) : Prop :=
  Or' S w0 b ∧ b ∉ bs.b ∧ ∀ (k : Nat) r v, rs[k]? = some r → bs.v[k]? = some v → r.isDead = false → v.ownBlock ≠ some b

structure Has (S X : Nat → Prop) (w0 : World) (nt : Nat) (st : St) (a : Act) (w : World) (bs : An) : Prop where
  ext : ExtX X w0 w
  xs : ∀ b, X b → S b
  boxes : Boxes (Al S w0 bs st.bx.r) w bs st.bx
  nodup : bs.b.Nodup
  new : ∀ b, b ∈ bs.b → w0.heap.size ≤ b
  rnew : ∀ (k : Nat) r v b, st.bx.r[k]? = some r → bs.v[k]? = some v → r.isDead = false → v.ownBlock = some b → (w0.heap.size ≤ b ∨ X b) ∧ b ∉ bs.b
  rdist : ∀ (k k' : Nat) r r' v v' b, st.bx.r[k]? = some r → st.bx.r[k']? = some r' → bs.v[k]? = some v → bs.v[k']? = some v' → r.isDead = false → r'.isDead = false → k ≠ k' → v.ownBlock = some b → v'.ownBlock ≠ some b
  slots : ∀ t, (look t st.sl).mean (Al S w0 bs st.bx.r) bs w (a.tmps.getD t undef)
  plain : ∀ t, (look t st.sl).isFresh = false
  size : a.tmps.size = nt
  defers : a.defers = []

/-- A row that will not be written again. -/
def frozenV (k : Nat) (c : CV) : AV → AV
  | .own j => cond (Nat.beq j k) (.one c) (.own j)
  | .ownAt j s i => cond (Nat.beq j k) .any (.ownAt j s i)
  | .part j lo n o => cond (Nat.beq j k) .any (.part j lo n o)
  | v => v

def dropV (k : Nat) : AV → AV
  | .own j => cond (Nat.beq j k) .any (.own j)
  | .ownAt j s i => cond (Nat.beq j k) .any (.ownAt j s i)
  | .part j lo n o => cond (Nat.beq j k) .any (.part j lo n o)
  | v => v

def mapV (f : AV → AV) : List (Nat × AV) → List (Nat × AV)
  | [] => []
  | (t, v) :: l => (t, f v) :: mapV f l

def freezeK (k : Nat) (st : St) : St := match nth st.bx.r k with
  | some r => (match r.cv with
    | some c => ⟨mapV (frozenV k c) st.sl, ⟨st.bx.b, st.bx.r.set k .dead⟩⟩
    | none => st)
  | none => st

def frzAll : List Operand → St → St
  | [], st => st
  | x :: l, st => frzAll l (match evalO st.sl x with
    | .own k => freezeK k st
    | _ => st)

/-! The same, written so that the terms stay small when they are run. -/

def forceC (c : CV) (K : CV → Prop) : Prop := match c with
  | .b (.val v) => K (.b (.val v))
  | .b (.nat l) => K (.b (.nat l))
  | .sl n l => K (.sl n l)
  | .sll n l => K (.sll n l)
  | .any => K .any

def forceCs : List CV → (List CV → Prop) → Prop
  | [], K => K []
  | c :: cs, K => forceC c fun c' => forceCs cs fun cs' => K (c' :: cs')

def forceV (v : AV) (K : AV → Prop) : Prop := match v with
  | .r (.one c) => forceC c fun c' => K (.r (.one c'))
  | .r (.agg cs) => forceCs cs fun cs' => K (.r (.agg cs'))
  | .ptr k off => K (.ptr k off)
  | .own k => K (.own k)
  | .ownAt k s j => K (.ownAt k s j)
  | .elem cs => forceCs cs fun cs' => K (.elem cs')
  | .fresh t cs => K (.fresh t cs)
  | .freshN e l => K (.freshN e l)
  | .part k lo n o => K (.part k lo n o)
  | .tup l => K (.tup l)
  | .any => K .any
  | .same t => K (.same t)

theorem forceC_eq (c : CV) (K : CV → Prop) : forceC c K = K c := by
  cases c with
  | b x => cases x <;> rfl
  | _ => rfl
theorem forceCs_eq : ∀ (cs : List CV) (K : List CV → Prop), forceCs cs K = K cs
  | [], _ => rfl
  | c :: cs, K => by
    unfold forceCs
    rw [forceC_eq, forceCs_eq cs]

def mapK (f : AV → AV) : List (Nat × AV) → (List (Nat × AV) → Prop) → Prop
  | [], K => K []
  | (t, v) :: l, K => forceV (f v) fun v' => mapK f l fun l' => K ((t, v') :: l')

def setK {α : Type} : List α → Nat → α → (List α → Prop) → Prop
  | [], _, _, K => K []
  | _ :: l, 0, y, K => K (y :: l)
  | x :: l, k + 1, y, K => setK l k y fun l' => K (x :: l')

def appK {α : Type} : List α → α → (List α → Prop) → Prop
  | [], y, K => K [y]
  | x :: l, y, K => appK l y fun l' => K (x :: l')

theorem forceV_eq (v : AV) (K : AV → Prop) : forceV v K = K v := by
  cases v with
  | r x => cases x with
    | one c => exact forceC_eq c (fun c' => K (.r (.one c')))
    | agg cs => exact forceCs_eq cs (fun cs' => K (.r (.agg cs')))
  | elem cs => exact forceCs_eq cs (fun cs' => K (.elem cs'))
  | _ => rfl
theorem mapK_eq (f : AV → AV) : ∀ (l : List (Nat × AV)) (K : List (Nat × AV) → Prop), mapK f l K = K (mapV f l)
  | [], _ => rfl
  | (t, v) :: l, K => by
    unfold mapK
    rw [forceV_eq, mapK_eq f l]
    rfl
theorem setK_eq {α : Type} : ∀ (l : List α) (k : Nat) (y : α) (K : List α → Prop), setK l k y K = K (l.set k y)
  | [], _, _, _ => rfl
  | _ :: _, 0, _, _ => rfl
  | x :: l, k + 1, y, K => by
    unfold setK
    rw [setK_eq l k y]
    rfl
theorem appK_eq {α : Type} : ∀ (l : List α) (y : α) (K : List α → Prop), appK l y K = K (l ++ [y])
  | [], _, _ => rfl
  | x :: l, y, K => by
    unfold appK
    rw [appK_eq l y]
    rfl

theorem mapV_id : ∀ l : List (Nat × AV), mapV (fun v => v) l = l
  | [] => rfl
  | (t, v) :: l => by simp only [mapV, mapV_id l]

def forceB : List (TypeId × List CV) → (List (TypeId × List CV) → Prop) → Prop
  | [], K => K []
  | (t, cs) :: l, K => forceCs cs fun cs' => forceB l fun l' => K ((t, cs') :: l')
theorem forceB_eq : ∀ (l : List (TypeId × List CV)) (K : List (TypeId × List CV) → Prop), forceB l K = K l
  | [], _ => rfl
  | (t, cs) :: l, K => by
    unfold forceB
    rw [forceCs_eq, forceB_eq l]

def forceS (st : St) (K : St → Prop) : Prop := match st with
  | ⟨sl, ⟨b, r⟩⟩ => mapK (fun v => v) sl fun sl' => forceB b fun b' => K ⟨sl', ⟨b', r⟩⟩
theorem forceS_eq (st : St) (K : St → Prop) : forceS st K = K st := by
  obtain ⟨sl, b, r⟩ := st
  simp only [forceS, mapK_eq, mapV_id, forceB_eq]

def withS (st : St) (K : List (Nat × AV) → List (TypeId × List CV) → List Rw → Prop) : Prop := match st with
  | ⟨sl, ⟨b, r⟩⟩ => K sl b r
theorem withS_eq (st : St) (K : List (Nat × AV) → List (TypeId × List CV) → List Rw → Prop) : withS st K = K st.sl st.bx.b st.bx.r := by
  obtain ⟨sl, b, r⟩ := st
  rfl

/-- A slot that is known better. -/
def setSK : List (Nat × AV) → Nat → AV → (List (Nat × AV) → Prop) → Prop
  | [], _, _, K => K []
  | (u, x) :: l, t, v, K => cond (Nat.beq t u) (K ((u, v) :: l)) (setSK l t v fun l' => K ((u, x) :: l'))
theorem setSK_self {t : Nat} {v : AV} : ∀ {l : List (Nat × AV)} (K : List (Nat × AV) → Prop), look t l = v → setSK l t v K = K l
  | [], _, _ => rfl
  | (u, x) :: l, K, h => by
    unfold look at h
    unfold setSK
    cases hb : Nat.beq t u with
    | true => rw [hb] at h; simp only [cond_true] at h ⊢; rw [h]
    | false => rw [hb] at h; simp only [cond_false] at h ⊢; rw [setSK_self _ h]

def natsK : List Nat → (List Nat → Prop) → Prop
  | [], K => K []
  | x :: l, K => natsK l fun l' => K (x :: l')
theorem natsK_eq : ∀ (l : List Nat) (K : List Nat → Prop), natsK l K = K l
  | [], _ => rfl
  | x :: l, K => by
    unfold natsK
    rw [natsK_eq l]

def freezeKK (k : Nat) (st : St) (K : St → Prop) : Prop := withS st fun sl b rs => match nth rs k with
  | some r => (match r.cv with
    | some c => mapK (frozenV k c) sl fun sl => setK rs k .dead fun rs => K ⟨sl, ⟨b, rs⟩⟩
    | none => K ⟨sl, ⟨b, rs⟩⟩)
  | none => K ⟨sl, ⟨b, rs⟩⟩

theorem freezeKK_eq (k : Nat) (st : St) (K : St → Prop) : freezeKK k st K = K (freezeK k st) := by
  unfold freezeKK freezeK
  rw [withS_eq]
  split
  · split
    · rw [mapK_eq, setK_eq]
    · rfl
  · rfl

def frzAllK : List Operand → St → (St → Prop) → Prop
  | [], st, K => K st
  | x :: l, st, K => match evalO st.sl x with
    | .own k => freezeKK k st fun st' => frzAllK l st' K
    | _ => frzAllK l st K

theorem frzAllK_eq : ∀ (l : List Operand) (st : St) (K : St → Prop), frzAllK l st K = K (frzAll l st)
  | [], _, _ => rfl
  | x :: l, st, K => by
    unfold frzAllK frzAll
    split
    · rw [freezeKK_eq, frzAllK_eq l]
    · rw [frzAllK_eq l]

/-- The operands that an operation hands on. -/
def frzOps : Op → List Operand
  | .call { callee := .value _, args, .. } => args.toList
  | .call { callee := .builtin .append, args, .. } => args.toList.drop 1
  | .call { callee := .builtin .copy, args, .. } => args.toList.drop 1
  | .buildSlice _ _ ps => ps.toList.map fun p => p.2
  | .build _ ps => ps.toList.map fun p => p.2
  | .store _ _ y => [y]
  | _ => []

/-- One operation, for the proofs. -/
def doOp1P (E : Env) (o : Oper) (st : St) (K : St → Prop) : Prop :=
  match allocOut E (evalO st.sl) o.op, o.dst with
  | some (t, cs), some d => K ⟨(d, .ptr st.bx.b.length 0) :: st.sl, ⟨st.bx.b ++ [(t, cs)], st.bx.r⟩⟩
  | some _, none => False
  | none, _ => (match storeOut E st.bx (evalO st.sl) o.op, o.dst with
    | some (k, off, vs), none => (match nth st.bx.b k with
      | some (t, cs) => K ⟨st.sl, ⟨st.bx.b.set k (t, splice cs off vs), st.bx.r⟩⟩
      | none => False)
    | some _, some _ => False
    | none, d => (match rowOut E st.bx (evalO st.sl) o.op, d with
      | some (pre, .mk r), some d => pre ∧ K ⟨(d, .own st.bx.r.length) :: st.sl, ⟨st.bx.b, st.bx.r ++ [r]⟩⟩
      | some (pre, .app k r), some d => pre ∧ K ⟨(d, .own k) :: mapV (dropV k) st.sl, ⟨st.bx.b, st.bx.r.set k r⟩⟩
      | some (pre, .set k r), none => pre ∧ K ⟨st.sl, ⟨st.bx.b, st.bx.r.set k r⟩⟩
      | some (pre, .cp k r n), some d => pre ∧ K ⟨(d, .val (.int .i64 n)) :: st.sl, ⟨st.bx.b, st.bx.r.set k r⟩⟩
      | some (pre, .cp k r _), none => pre ∧ K ⟨st.sl, ⟨st.bx.b, st.bx.r.set k r⟩⟩
      | some (pre, .dig k r v), some d => pre ∧ K ⟨(d, .val v) :: st.sl, ⟨st.bx.b, st.bx.r.set k r⟩⟩
      | some _, _ => False
      | none, none => False
      | none, some d => (match opOut E st.bx (evalO st.sl) o with
        | .ok x => (match x.isFresh with
          | true => False
          | false => K ⟨(d, x) :: st.sl, st.bx⟩)
        | .val pre x => (match x.isFresh with
          | true => False
          | false => pre ∧ K ⟨(d, x) :: st.sl, st.bx⟩)
        | .bad => False)))

/-- One operation. -/
def doOp1 (E : Env) (o : Oper) (st : St) (K : St → Prop) : Prop :=
  withS st fun sl b r =>
  match allocOut E (evalO sl) o.op, o.dst with
  | some (t, cs), some d => forceCs cs fun cs => appK b (t, cs) fun b' => K ⟨(d, .ptr b.length 0) :: sl, ⟨b', r⟩⟩
  | some _, none => False
  | none, _ => (match storeOut E ⟨b, r⟩ (evalO sl) o.op, o.dst with
    | some (k, off, vs), none => (match nth b k with
      | some (t, cs) => forceCs (splice cs off vs) fun cs => setK b k (t, cs) fun b' => K ⟨sl, ⟨b', r⟩⟩
      | none => False)
    | some _, some _ => False
    | none, d => (match rowOut E ⟨b, r⟩ (evalO sl) o.op, d with
      | some (pre, .mk q), some d => pre ∧ appK r q fun r' => K ⟨(d, .own r.length) :: sl, ⟨b, r'⟩⟩
      | some (pre, .app k q), some d => pre ∧ mapK (dropV k) sl fun sl => setK r k q fun r' => K ⟨(d, .own k) :: sl, ⟨b, r'⟩⟩
      | some (pre, .set k q), none => pre ∧ setK r k q fun r' => K ⟨sl, ⟨b, r'⟩⟩
      | some (pre, .cp k q n), some d => pre ∧ setK r k q fun r' => K ⟨(d, .val (.int .i64 n)) :: sl, ⟨b, r'⟩⟩
      | some (pre, .cp k q _), none => pre ∧ setK r k q fun r' => K ⟨sl, ⟨b, r'⟩⟩
      | some (pre, .dig k q v), some d => pre ∧ setK r k q fun r' => K ⟨(d, .val v) :: sl, ⟨b, r'⟩⟩
      | some _, _ => False
      | none, none => False
      | none, some d => (match opOut E ⟨b, r⟩ (evalO sl) o with
        | .ok x => (match x.isFresh with
          | true => False
          | false => forceV x fun x => K ⟨(d, x) :: sl, ⟨b, r⟩⟩)
        | .val pre x => (match x.isFresh with
          | true => False
          | false => pre ∧ forceV x fun x => K ⟨(d, x) :: sl, ⟨b, r⟩⟩)
        | .bad => False)))

theorem doOp1_eq (E : Env) (o : Oper) (st : St) (K : St → Prop) : doOp1 E o st K = doOp1P E o st K := by
  unfold doOp1 doOp1P
  simp only [withS_eq, mapK_eq, setK_eq, appK_eq, forceCs_eq, forceV_eq]

/-- The same, less the rows that are only looked into. -/
def frzE (E : Env) (op : Op) : List Operand := match E.K with
  | [] => frzOps op
  | k :: ks => (match op with
    | .call { callee := .value (.func f), args, argTypes } => cond ((k :: ks).any fun x => Nat.beq x.1 f) [] (frzOps (.call { callee := .value (.func f), args, argTypes }))
    | op => frzOps op)

def doOp (E : Env) (o : Oper) (st : St) (K : St → Prop) : Prop := frzAllK (frzE E o.op) st fun st => doOp1 E o st K

/-- Operations one behind the other. -/
def seqOps (E : Env) (gs : Nat → Option Tmp) : List Oper → St → (St → Prop) → Prop
  | [], st, K => K st
  | o :: os, st, K => match o.guard with
    | none => doOp E o st (fun st' => seqOps E gs os st' K)
    | some (j, want) => (match gs j, o.dst with
      | some g, some d => withS st fun sl bb rr => (match look g sl with
        | .r (.one (.b (.val (.bool b)))) =>
          (b = want ∧ setSK sl g (.val (.bool want)) fun sl => doOp E o ⟨sl, ⟨bb, rr⟩⟩ (fun st' => seqOps E gs os st' K)) ∨
          (b = !want ∧ setSK sl g (.val (.bool !want)) fun sl => seqOps E gs os ⟨(d, .val (.tuple #[])) :: sl, ⟨bb, rr⟩⟩ K)
        | .r (.one (.b (.val (.tuple _)))) => seqOps E gs os ⟨(d, .val (.tuple #[])) :: sl, ⟨bb, rr⟩⟩ K
        | _ => False)
      | _, _ => False)

/-- The slot that an operation writes. -/
def dstOf (ops : Array Oper) (j : Nat) : Option Tmp := (ops[j]?).bind fun o => o.dst

def fits (nt : Nat) (ops : List Oper) : Bool := ops.all fun o => match o.dst with | some d => Nat.blt d nt | none => true

section
variable {P : Program} {E : Env} {S X : Nat → Prop} {w0 : World} {nt : Nat}

theorem eval_mean {st : St} {a : Act} {w : World} {bs : An} (h : Has S X w0 nt st a w bs) (x : Operand) : (evalO st.sl x).mean (Al S w0 bs st.bx.r) bs w (a.eval x) := by
  cases x with
  | tmp t => exact h.slots t
  | const v => rfl
  | global g => trivial
  | func f => rfl

theorem getD_put (a : Act) (d t : Nat) (v : Value) (hd : d < a.tmps.size) : (a.put (some d) v).tmps.getD t undef = if t = d then v else a.tmps.getD t undef := by
  simp only [Act.put, Array.getD_eq_getD_getElem?, Array.getElem?_setIfInBounds]
  by_cases h : d = t
  · subst h; simp [hd]
  · rw [if_neg h, if_neg (fun e => h e.symm)]

theorem put_size (a : Act) (d : Option Nat) (v : Value) : (a.put d v).tmps.size = a.tmps.size := by cases d <;> simp [Act.put]
theorem put_defers (a : Act) (d : Option Nat) (v : Value) : (a.put d v).defers = a.defers := by cases d <;> rfl

theorem Boxes.lt {S : Nat → Prop} {w : World} {bs : An} {bx : Bxs} (h : Boxes S w bs bx) {b : Nat} (hb : b ∈ bs.b) : b < w.heap.size := by
  obtain ⟨k, hk⟩ := List.getElem?_of_mem hb
  have hkl : k < bx.b.length := by rw [h.vars.length]; exact (List.getElem?_eq_some_iff.1 hk).1
  obtain ⟨b', hb1, us', hb2, _⟩ := h.vars.get (List.getElem?_eq_getElem hkl)
  rw [hk] at hb1
  injection hb1 with hb1
  subst hb1
  exact lt_of_heap hb2

theorem Boxes.rlt {S : Nat → Prop} {w : World} {bs : An} {bx : Bxs} (h : Boxes S w bs bx) {k : Nat} {r : Rw} {v : Value} {b : Nat} (hr : bx.r[k]? = some r) (hv : bs.v[k]? = some v) (hd : r.isDead = false) (hb : v.ownBlock = some b) : b < w.heap.size := by
  obtain ⟨v', hv', hm⟩ := h.rows.get hr
  rw [hv] at hv'
  injection hv' with hv'
  subst hv'
  exact hm.lt hd hb

/-- What a call in the midst may bring is no box and no row. -/
theorem Has.al {st : St} {a : Act} {w : World} {bs : An} (h : Has S X w0 nt st a w bs) (b : Nat) (hb : Or' (Al S w0 bs st.bx.r) w b) : Al S w0 bs st.bx.r b := by
  rcases hb with hb | hb
  · exact hb
  · refine ⟨.inr (Nat.le_trans h.ext.size hb), fun hm => ?_, fun k r v hr hv hd ho => ?_⟩
    · have := h.boxes.lt hm; omega
    · have := h.boxes.rlt hr hv hd ho; omega

theorem beq_false {a b : Nat} (h : a ≠ b) : Nat.beq a b = false := by
  cases hb : Nat.beq a b with
  | true => exact absurd (Nat.eq_of_beq_eq_true hb) h
  | false => rfl

theorem Has.put {st : St} {a : Act} {w w' : World} {bs : An} (h : Has S X w0 nt st a w bs) (e : Ext w w') {d : Nat} (hd : d < nt) {x : AV} {v : Value} (hx : x.mean (Al S w0 bs st.bx.r) bs w' v) (hf : x.isFresh = false) :
    Has S X w0 nt ⟨(d, x) :: st.sl, st.bx⟩ (a.put (some d) v) w' bs where
  ext := h.ext.trans e
  xs := h.xs
  boxes := h.boxes.ext e fun _ h _ => h
  nodup := h.nodup
  new := h.new
  rnew := h.rnew
  rdist := h.rdist
  slots := fun t => by
    rw [getD_put a d t v (by rw [h.size]; exact hd)]
    unfold look
    by_cases ht : t = d
    · subst ht
      rw [if_pos rfl, Nat.beq_refl]
      exact hx
    · rw [if_neg ht, beq_false ht]
      exact (h.slots t).ext e fun _ h _ => h
  plain := fun t => by
    unfold look
    cases Nat.beq t d with
    | true => exact hf
    | false => exact h.plain t
  size := by rw [put_size]; exact h.size
  defers := by rw [put_defers]; exact h.defers

theorem Has.same {st : St} {a : Act} {w : World} {bs : An} (h : Has S X w0 nt st a w bs) {g : Nat} {x : AV} (hx : x.mean (Al S w0 bs st.bx.r) bs w (a.tmps.getD g undef)) (hf : x.isFresh = false) : Has S X w0 nt ⟨(g, x) :: st.sl, st.bx⟩ a w bs where
  ext := h.ext
  xs := h.xs
  boxes := h.boxes
  nodup := h.nodup
  new := h.new
  rnew := h.rnew
  rdist := h.rdist
  slots := fun t => by
    unfold look
    cases hb : Nat.beq t g with
    | true => have := Nat.eq_of_beq_eq_true hb; subst this; exact hx
    | false => exact h.slots t
  plain := fun t => by
    unfold look
    cases Nat.beq t g with
    | true => exact hf
    | false => exact h.plain t
  size := h.size
  defers := h.defers

theorem Has.alloc {st : St} {a : Act} {w : World} {bs : An} (h : Has S X w0 nt st a w bs) {d : Nat} (hd : d < nt) {t : TypeId} {cs : List CV} {us : List Value} (hm : All2 (CV.mean (Al S w0 bs st.bx.r) w) cs us) :
    Has S X w0 nt ⟨(d, .ptr st.bx.b.length 0) :: st.sl, ⟨st.bx.b ++ [(t, cs)], st.bx.r⟩⟩ (a.put (some d) (.pointer (some ⟨w.heap.size, 0, none⟩))) (w.alloc (.cells us.toArray t)) ⟨bs.b ++ [w.heap.size], bs.v⟩ := by
  have e := Ext.alloc w (.cells us.toArray t)
  have hlen : st.bx.b.length = bs.b.length := h.boxes.vars.length
  have hS : ∀ b, Al S w0 bs st.bx.r b → b < w.heap.size → Al S w0 ⟨bs.b ++ [w.heap.size], bs.v⟩ st.bx.r b := fun b hb hlt => ⟨hb.1, fun hm => by
    rcases List.mem_append.1 hm with hm | hm
    · exact hb.2.1 hm
    · simp only [List.mem_singleton] at hm; omega, hb.2.2⟩
  have hbx := h.boxes.ext e hS
  have h1 : Has S X w0 nt ⟨st.sl, ⟨st.bx.b ++ [(t, cs)], st.bx.r⟩⟩ a (w.alloc (.cells us.toArray t)) ⟨bs.b ++ [w.heap.size], bs.v⟩ :=
    { ext := h.ext.trans e
      xs := h.xs
      boxes := ⟨hbx.vars.append ⟨⟨us, heap_alloc_new w _, CV.all_keep hm (e.keepsTo hS)⟩, trivial⟩, hbx.rows⟩
      nodup := by
        simp only
        rw [List.nodup_append]
        refine ⟨h.nodup, by simp, ?_⟩
        intro x hx y hy
        simp only [List.mem_singleton] at hy
        subst hy
        have := h.boxes.lt hx
        omega
      new := fun b hb => by
        rcases List.mem_append.1 hb with hb | hb
        · exact h.new b hb
        · simp only [List.mem_singleton] at hb
          subst hb
          exact h.ext.size
      rnew := fun k r v b hr hv hdd ho => ⟨(h.rnew k r v b hr hv hdd ho).1, fun hm => by
        rcases List.mem_append.1 hm with hm | hm
        · exact (h.rnew k r v b hr hv hdd ho).2 hm
        · simp only [List.mem_singleton] at hm
          have := h.boxes.rlt hr hv hdd ho
          omega⟩
      rdist := h.rdist
      slots := fun t => by
        have := ((h.slots t).ext e hS).more [w.heap.size] []
        rw [List.append_nil] at this
        revert this
        cases look t st.sl <;> exact id
      plain := h.plain
      size := h.size
      defers := h.defers }
  refine h1.put (Ext.refl _) hd ⟨w.heap.size, ?_, rfl⟩ rfl
  simp only
  rw [hlen]
  simp

/-- Cells written into a box. -/
theorem Has.store {st : St} {a : Act} {w : World} {bs : An} (h : Has S X w0 nt st a w bs) {k off : Nat} {t : TypeId} {cs vs : List CV} {b : Nat} {us ws : List Value} (hb : bs.b[k]? = some b)
    (hh : w.heap[b]? = some (.cells us.toArray t (0, 0))) (hm : All2 (CV.mean (Al S w0 bs st.bx.r) w) cs us) (hv : All2 (CV.mean (Al S w0 bs st.bx.r) w) vs ws) (hl : off + ws.length ≤ us.length) :
    Has S X w0 nt ⟨st.sl, ⟨st.bx.b.set k (t, splice cs off vs), st.bx.r⟩⟩ a (w.setRow b (us.take off ++ ws ++ us.drop (off + ws.length)).toArray) bs := by
  have hbm : b ∈ bs.b := List.mem_of_getElem? hb
  have hother : ∀ c, c ≠ b → (w.setRow b (us.take off ++ ws ++ us.drop (off + ws.length)).toArray).heap[c]? = w.heap[c]? := fun c hc => setRow_other w b c _ (fun e => hc (by simpa using e))
  have hsz : (w.setRow b (us.take off ++ ws ++ us.drop (off + ws.length)).toArray).heap.size = w.heap.size := by simp [World.setRow]
  have hkeep : Keeps (Al S w0 bs st.bx.r) (Al S w0 bs st.bx.r) w (w.setRow b (us.take off ++ ws ++ us.drop (off + ws.length)).toArray) :=
    ⟨by rw [hsz]; exact Nat.le_refl _, fun c hc _ => ⟨hc, hother c (fun e => hc.2.1 (by rw [e]; exact hbm))⟩⟩
  have hext : ExtX X w0 (w.setRow b (us.take off ++ ws ++ us.drop (off + ws.length)).toArray) := by
    have hbn := h.new b hbm
    exact ⟨h.ext.os, h.ext.tape, h.ext.output, by rw [hsz]; exact h.ext.size, fun c hc hx => (hother c (by omega)).trans (h.ext.block c hc hx)⟩
  have hbox : All2 (fun (x : TypeId × List CV) c => ∃ us' : List Value, (w.setRow b (us.take off ++ ws ++ us.drop (off + ws.length)).toArray).heap[c]? = some (.cells us'.toArray x.1 (0, 0)) ∧ All2 (CV.mean (Al S w0 bs st.bx.r) (w.setRow b (us.take off ++ ws ++ us.drop (off + ws.length)).toArray)) x.2 us') (st.bx.b.set k (t, splice cs off vs)) bs.b := by
    have key : ∀ (xs : List (TypeId × List CV)) (l : List Nat) (k : Nat), l.Nodup → All2 (fun (x : TypeId × List CV) c => ∃ us' : List Value, w.heap[c]? = some (.cells us'.toArray x.1 (0, 0)) ∧ All2 (CV.mean (Al S w0 bs st.bx.r) w) x.2 us') xs l → l[k]? = some b →
        All2 (fun (x : TypeId × List CV) c => ∃ us' : List Value, (w.setRow b (us.take off ++ ws ++ us.drop (off + ws.length)).toArray).heap[c]? = some (.cells us'.toArray x.1 (0, 0)) ∧ All2 (CV.mean (Al S w0 bs st.bx.r) (w.setRow b (us.take off ++ ws ++ us.drop (off + ws.length)).toArray)) x.2 us') (xs.set k (t, splice cs off vs)) l := by
      intro xs
      induction xs with
      | nil => intro l k _ hB hl'; cases l with
        | nil => simp at hl'
        | cons c l => exact hB.elim
      | cons x xs ih =>
        intro l k hnd hB hl'
        cases l with
        | nil => exact hB.elim
        | cons c l =>
          obtain ⟨hB1, hB2⟩ := hB
          rw [List.nodup_cons] at hnd
          cases k with
          | zero =>
            simp only [List.getElem?_cons_zero, Option.some.injEq] at hl'
            subst hl'
            simp only [List.set_cons_zero]
            refine ⟨⟨_, setRow_heap w c us.toArray _ t (0, 0) hh, splice_mean off (CV.all_keep hm hkeep) (CV.all_keep hv hkeep) hl⟩, ?_⟩
            refine All2.imp_mem (fun q y d _ hd ⟨us', hh', hm'⟩ => ⟨us', (hother d (fun e => hnd.1 ?_)).trans hh', CV.all_keep hm' hkeep⟩) hB2
            rw [← e]
            exact List.mem_of_getElem? hd
          | succ k =>
            simp only [List.getElem?_cons_succ] at hl'
            simp only [List.set_cons_succ]
            obtain ⟨us', hh', hm'⟩ := hB1
            have hne : c ≠ b := fun e => hnd.1 (by rw [e]; exact List.mem_of_getElem? hl')
            exact ⟨⟨us', (hother c hne).trans hh', CV.all_keep hm' hkeep⟩, ih l k hnd.2 hB2 hl'⟩
    exact key st.bx.b bs.b k h.nodup h.boxes.vars hb
  exact
    { ext := hext
      xs := h.xs
      boxes := ⟨hbox, All2.imp_mem (fun q r v hr hv' hmean => by
        cases hd : r.isDead with
        | true => cases r <;> first | trivial | cases hd
        | false => exact hmean.keep hkeep fun c hc _ => hother c (fun e => (h.rnew q r v c hr hv' hd hc).2 (by rw [e]; exact hbm))) h.boxes.rows⟩
      nodup := h.nodup
      new := h.new
      rnew := h.rnew
      rdist := h.rdist
      slots := fun t => (h.slots t).keep hkeep (h.plain t)
      plain := h.plain
      size := h.size
      defers := h.defers }

theorem All2.set {α β : Type} {R : α → β → Prop} : ∀ {xs : List α} {ys : List β} (k : Nat) {x : α} {y : β}, All2 R xs ys → R x y → All2 R (xs.set k x) (ys.set k y)
  | [], [], _, _, _, _, _ => trivial
  | _ :: _, _ :: _, 0, _, _, ⟨_, h2⟩, h => ⟨h, h2⟩
  | _ :: _, _ :: _, k + 1, _, _, ⟨h1, h2⟩, h => ⟨h1, All2.set k h2 h⟩
  | [], _ :: _, _, _, _, h, _ => h.elim
  | _ :: _, [], _, _, _, h, _ => h.elim

/-- The slot does not look at row k. -/
def notOwn (k : Nat) : AV → Prop
  | .own j => j ≠ k
  | .ownAt j _ _ => j ≠ k
  | .part j _ _ _ => j ≠ k
  | _ => True

/-- A row has turned. -/
theorem Has.turn {st : St} {a : Act} {w : World} {bs : An} (h : Has S X w0 nt st a w bs) {k : Nat} {r0 : Rw} {v : Value} (hk : nth st.bx.r k = some r0) (hv : bs.v[k]? = some v) (hlive : r0.isDead = false) {w' : World} (g : w.grownBy w' v.ownBlock) {r : Rw} {v' : Value}
    (hr : r.mean (Lt (Al S w0 bs st.bx.r) w) w' v') (_hrl : r.isDead = false) (hb : v'.ownBlock = v.ownBlock ∨ v'.ownBlock = some w.heap.size) {sl' : List (Nat × AV)} (hsl : ∀ t, look t sl' = .any ∨ (look t sl' = look t st.sl ∧ (v' = v ∨ notOwn k (look t st.sl)))) :
    Has S X w0 nt ⟨sl', ⟨st.bx.b, st.bx.r.set k r⟩⟩ a w' ⟨bs.b, bs.v.set k v'⟩ := by
  rw [nth_eq] at hk
  have hkr := (List.getElem?_eq_some_iff.1 hk).1
  have hkv := (List.getElem?_eq_some_iff.1 hv).1
  have hgr : ∀ q : Nat, (st.bx.r.set k r)[q]? = if q = k then some r else st.bx.r[q]? := fun q => by
    rw [List.getElem?_set]
    by_cases e : k = q
    · subst e; simp [hkr]
    · rw [if_neg e, if_neg (fun h => e h.symm)]
  have hgv : ∀ q : Nat, (bs.v.set k v')[q]? = if q = k then some v' else bs.v[q]? := fun q => by
    rw [List.getElem?_set]
    by_cases e : k = q
    · subst e; simp [hkv]
    · rw [if_neg e, if_neg (fun h => e h.symm)]
  have hnewb : ∀ b, v'.ownBlock = some b → (w0.heap.size ≤ b ∨ X b) ∧ b ∉ bs.b := by
    intro b hb'
    rcases hb with e | e
    · rw [e] at hb'; exact h.rnew k r0 v b hk hv hlive hb'
    · rw [e] at hb'
      injection hb' with hb'
      subst hb'
      exact ⟨.inl h.ext.size, fun hm => by have := h.boxes.lt hm; omega⟩
  have hA : ∀ b, Al S w0 bs st.bx.r b → b < w.heap.size → Al S w0 ⟨bs.b, bs.v.set k v'⟩ (st.bx.r.set k r) b := by
    intro b hb' hlt
    refine ⟨hb'.1, hb'.2.1, fun q x u hx hu hd ho => ?_⟩
    simp only at hu
    rw [hgr] at hx
    rw [hgv] at hu
    by_cases e : q = k
    · rw [if_pos e] at hx hu
      injection hu with hu
      subst hu
      rcases hb with e' | e'
      · rw [e'] at ho; exact hb'.2.2 k r0 v hk hv hlive ho
      · rw [e'] at ho; injection ho with ho; omega
    · rw [if_neg e] at hx hu
      exact hb'.2.2 q x u hx hu hd ho
  have hkeep : Keeps (Al S w0 bs st.bx.r) (Al S w0 ⟨bs.b, bs.v.set k v'⟩ (st.bx.r.set k r)) w w' :=
    ⟨g.size, fun b hb' hlt => ⟨hA b hb' hlt, g.block b hlt (fun e => hb'.2.2 k r0 v hk hv hlive e.symm)⟩⟩
  have hvars : ∀ b, b ∈ bs.b → w'.heap[b]? = w.heap[b]? := fun b hm => g.block b (h.boxes.lt hm) (fun e => (h.rnew k r0 v b hk hv hlive e.symm).2 hm)
  have hrows : All2 (fun (x : Rw) u => x.mean (Al S w0 ⟨bs.b, bs.v.set k v'⟩ (st.bx.r.set k r)) w' u) (st.bx.r.set k r) (bs.v.set k v') := by
    have hnew : r.mean (Al S w0 ⟨bs.b, bs.v.set k v'⟩ (st.bx.r.set k r)) w' v' := hr.keep (Keeps.to fun b hb' _ => hA b hb'.1 hb'.2) (fun _ _ _ => rfl)
    -- the other rows
    have key : ∀ (q : Nat) (x : Rw) (u : Value), q ≠ k → st.bx.r[q]? = some x → bs.v[q]? = some u → x.mean (Al S w0 bs st.bx.r) w u → x.mean (Al S w0 ⟨bs.b, bs.v.set k v'⟩ (st.bx.r.set k r)) w' u := by
      intro q x u hq hx hu hm
      cases hd : x.isDead with
      | true => cases x <;> first | trivial | cases hd
      | false => exact hm.keep hkeep fun b hb' hlt => g.block b hlt (fun e => h.rdist k q r0 x v u b hk hx hv hu hlive hd (fun e => hq e.symm) e.symm hb')
    have gen : ∀ (xs : List Rw) (ys : List Value) (i : Nat), (∀ q x, xs[q]? = some x → st.bx.r[i + q]? = some x) → (∀ q y, ys[q]? = some y → bs.v[i + q]? = some y) → All2 (fun (r : Rw) v => r.mean (Al S w0 bs st.bx.r) w v) xs ys → i ≤ k →
        All2 (fun (x : Rw) u => x.mean (Al S w0 ⟨bs.b, bs.v.set k v'⟩ (st.bx.r.set k r)) w' u) (xs.set (k - i) r) (ys.set (k - i) v') := by
      intro xs
      induction xs with
      | nil => intro ys i _ _ hB _; cases ys with
        | nil => trivial
        | cons y ys => exact hB.elim
      | cons x xs ih =>
        intro ys i hxs hys hB hik
        cases ys with
        | nil => exact hB.elim
        | cons y ys =>
          rcases Nat.eq_or_lt_of_le hik with e | hlt
          · subst e
            rw [Nat.sub_self]
            simp only [List.set_cons_zero]
            refine ⟨hnew, All2.imp_mem (fun q z u hz hu hm => key (i + (q + 1)) z u (by omega) (hxs (q + 1) z (by simpa using hz)) (hys (q + 1) u (by simpa using hu)) hm) hB.2⟩
          · obtain ⟨m, hm⟩ : ∃ m, k - i = m + 1 := ⟨k - i - 1, by omega⟩
            rw [hm]
            simp only [List.set_cons_succ]
            have e2 : k - (i + 1) = m := by omega
            rw [← e2]
            refine ⟨key i x y (by omega) (by have := hxs 0 x rfl; simpa using this) (by have := hys 0 y rfl; simpa using this) hB.1, ih ys (i + 1) (fun q z hz => ?_) (fun q z hz => ?_) hB.2 hlt⟩
            · have := hxs (q + 1) z (by simpa using hz)
              rwa [show i + (q + 1) = i + 1 + q by omega] at this
            · have := hys (q + 1) z (by simpa using hz)
              rwa [show i + (q + 1) = i + 1 + q by omega] at this
    have := gen st.bx.r bs.v 0 (fun q x hx => by rw [Nat.zero_add]; exact hx) (fun q y hy => by rw [Nat.zero_add]; exact hy) h.boxes.rows (Nat.zero_le _)
    rwa [Nat.sub_zero] at this
  exact
    { ext := ⟨g.os.trans h.ext.os, g.tape.trans h.ext.tape, g.output.trans h.ext.output, Nat.le_trans h.ext.size g.size, fun c hc hx => (g.block c (Nat.lt_of_lt_of_le hc h.ext.size) (fun e => by
        rcases (h.rnew k r0 v c hk hv hlive e.symm).1 with h1 | h1
        · omega
        · exact hx h1)).trans (h.ext.block c hc hx)⟩
      xs := h.xs
      boxes := ⟨All2.imp_mem (fun q x b _ hb' ⟨us, hh, hm⟩ => ⟨us, (hvars b (List.mem_of_getElem? hb')).trans hh, CV.all_keep hm hkeep⟩) h.boxes.vars, hrows⟩
      nodup := h.nodup
      new := h.new
      rnew := fun q x u b hx hu hd ho => by
        simp only at hx hu
        rw [hgr] at hx
        rw [hgv] at hu
        by_cases e : q = k
        · rw [if_pos e] at hu
          injection hu with hu
          subst hu
          exact hnewb b ho
        · rw [if_neg e] at hx hu
          exact h.rnew q x u b hx hu hd ho
      rdist := fun q q' x x' u u' b hx hx' hu hu' hd hd' hne ho ho' => by
        simp only at hx hx' hu hu'
        rw [hgr] at hx hx'
        rw [hgv] at hu hu'
        have hcross : ∀ (p : Nat) y z, p ≠ k → st.bx.r[p]? = some y → bs.v[p]? = some z → y.isDead = false → v'.ownBlock = some b → z.ownBlock = some b → False := by
          intro p y z hp hy hz hyd hvb hzb
          rcases hb with e' | e'
          · rw [e'] at hvb; exact h.rdist k p r0 y v z b hk hy hv hz hlive hyd (fun e => hp e.symm) hvb hzb
          · rw [e'] at hvb; injection hvb with hvb; have := h.boxes.rlt hy hz hyd hzb; omega
        by_cases e : q = k
        · have e' : q' ≠ k := fun h' => hne (by rw [e, h'])
          rw [if_pos e] at hu
          rw [if_neg e'] at hx' hu'
          injection hu with hu
          subst hu
          exact hcross q' x' u' e' hx' hu' hd' ho ho'
        · rw [if_neg e] at hx hu
          by_cases e' : q' = k
          · rw [if_pos e'] at hu'
            injection hu' with hu'
            subst hu'
            exact hcross q x u e hx hu hd ho' ho
          · rw [if_neg e'] at hx' hu'
            exact h.rdist q q' x x' u u' b hx hx' hu hu' hd hd' hne ho ho'
      slots := fun t => by
        rcases hsl t with e | ⟨e, hv'⟩
        · simp only; rw [e]; trivial
        · have hs := (h.slots t).keep hkeep (h.plain t)
          simp only
          rw [e]
          generalize look t st.sl = x at hs hv'
          cases x with
          | own j =>
            have hs' : bs.v[j]? = some (a.tmps.getD t undef) := hs
            show (bs.v.set k v')[j]? = some (a.tmps.getD t undef)
            rw [hgv]
            by_cases ej : j = k
            · rw [if_pos ej]
              rcases hv' with hv' | hv'
              · rw [hv']; subst ej; rw [hv] at hs'; exact hs'
              · exact absurd ej hv'
            · rw [if_neg ej]; exact hs'
          | ownAt j s i =>
            obtain ⟨b, n, c, hs', he⟩ := hs
            refine ⟨b, n, c, ?_, he⟩
            simp only
            rw [hgv]
            by_cases ej : j = k
            · rw [if_pos ej]
              rcases hv' with hv' | hv'
              · rw [hv']; subst ej; rw [hv] at hs'; exact hs'
              · exact absurd ej hv'
            · rw [if_neg ej]; exact hs'
          | part j lo n o =>
            obtain ⟨b, N, c, c', hs', he⟩ := hs
            refine ⟨b, N, c, c', ?_, he⟩
            simp only
            rw [hgv]
            by_cases ej : j = k
            · rw [if_pos ej]
              rcases hv' with hv' | hv'
              · rw [hv']; subst ej; rw [hv] at hs'; exact hs'
              · exact absurd ej hv'
            · rw [if_neg ej]; exact hs'
          | _ => exact hs
      plain := fun t => by
        rcases hsl t with e | ⟨e, _⟩
        · simp only; rw [e]; rfl
        · simp only; rw [e]; exact h.plain t
      size := h.size
      defers := h.defers }

theorem look_map (f : AV → AV) (hf : f .any = .any) (t : Nat) : ∀ l : List (Nat × AV), look t (mapV f l) = f (look t l)
  | [] => hf.symm
  | (u, v) :: l => by
    simp only [mapV, look]
    cases Nat.beq t u with
    | true => rfl
    | false => exact look_map f hf t l

/-- A new row. -/
theorem Has.row {st : St} {a : Act} {w w' : World} {bs : An} (h : Has S X w0 nt st a w bs) (e : Ext w w') {d : Nat} (hd : d < nt) {r : Rw} {v : Value} (hr : r.mean (Lt (Al S w0 bs st.bx.r) w) w' v) (hv : ∀ b, v.ownBlock = some b → w.heap.size ≤ b) :
    Has S X w0 nt ⟨(d, .own st.bx.r.length) :: st.sl, ⟨st.bx.b, st.bx.r ++ [r]⟩⟩ (a.put (some d) v) w' ⟨bs.b, bs.v ++ [v]⟩ := by
  have hlen : st.bx.r.length = bs.v.length := h.boxes.rows.length
  have hget : ∀ (q : Nat) x u, (st.bx.r ++ [r])[q]? = some x → (bs.v ++ [v])[q]? = some u → (st.bx.r[q]? = some x ∧ bs.v[q]? = some u) ∨ (q = st.bx.r.length ∧ x = r ∧ u = v) := by
    intro q x u hx hu
    rcases Nat.lt_or_ge q st.bx.r.length with hq | hq
    · rw [List.getElem?_append_left hq] at hx
      rw [List.getElem?_append_left (by omega)] at hu
      exact .inl ⟨hx, hu⟩
    · rw [List.getElem?_append_right hq] at hx
      rw [List.getElem?_append_right (by omega)] at hu
      have h0 : q - st.bx.r.length = 0 := by
        have := (List.getElem?_eq_some_iff.1 hx).1
        simp at this
        omega
      rw [h0] at hx
      rw [show q - bs.v.length = 0 by omega] at hu
      simp at hx hu
      exact .inr ⟨by omega, hx.symm, hu.symm⟩
  have hA : ∀ b, Al S w0 bs st.bx.r b → b < w.heap.size → Al S w0 ⟨bs.b, bs.v ++ [v]⟩ (st.bx.r ++ [r]) b := by
    intro b hb hlt
    refine ⟨hb.1, hb.2.1, fun q x u hx hu hdd ho => ?_⟩
    rcases hget q x u hx hu with ⟨h1, h2⟩ | ⟨_, _, rfl⟩
    · exact hb.2.2 q x u h1 h2 hdd ho
    · have := hv b ho; omega
  have hbx := h.boxes.ext e hA
  have h1 : Has S X w0 nt ⟨st.sl, ⟨st.bx.b, st.bx.r ++ [r]⟩⟩ a w' ⟨bs.b, bs.v ++ [v]⟩ :=
    { ext := h.ext.trans e
      xs := h.xs
      boxes := ⟨hbx.vars, hbx.rows.append ⟨hr.keep (Keeps.to fun b hb _ => hA b hb.1 hb.2) (fun _ _ _ => rfl), trivial⟩⟩
      nodup := h.nodup
      new := h.new
      rnew := fun q x u b hx hu hdd ho => by
        rcases hget q x u hx hu with ⟨h1, h2⟩ | ⟨_, _, rfl⟩
        · exact h.rnew q x u b h1 h2 hdd ho
        · have h3 := hv b ho
          exact ⟨.inl (Nat.le_trans h.ext.size h3), fun hm => by have := h.boxes.lt hm; omega⟩
      rdist := fun q q' x x' u u' b hx hx' hu hu' hdd hdd' hne ho ho' => by
        rcases hget q x u hx hu with ⟨h1, h2⟩ | ⟨e1, _, rfl⟩
        · rcases hget q' x' u' hx' hu' with ⟨h3, h4⟩ | ⟨_, _, rfl⟩
          · exact h.rdist q q' x x' u u' b h1 h3 h2 h4 hdd hdd' hne ho ho'
          · have := hv b ho'; have := h.boxes.rlt h1 h2 hdd ho; omega
        · rcases hget q' x' u' hx' hu' with ⟨h3, h4⟩ | ⟨e2, _, _⟩
          · have := hv b ho; have := h.boxes.rlt h3 h4 hdd' ho'; omega
          · omega
      slots := fun t => by
        have := ((h.slots t).ext e hA).more [] [v]
        rw [List.append_nil] at this
        revert this
        cases look t st.sl <;> exact id
      plain := h.plain
      size := h.size
      defers := h.defers }
  refine h1.put (Ext.refl _) hd ?_ rfl
  show (bs.v ++ [v])[st.bx.r.length]? = some v
  rw [hlen]
  simp

/-- A row that will not be written again. -/
theorem Has.freeze {st : St} {a : Act} {w : World} {bs : An} (h : Has S X w0 nt st a w bs) (k : Nat) : Has S X w0 nt (freezeK k st) a w bs := by
  unfold freezeK
  split
  · rename_i r hk
    split
    · rename_i c hc
      rw [nth_eq] at hk
      have hkr := (List.getElem?_eq_some_iff.1 hk).1
      have hgr : ∀ q : Nat, (st.bx.r.set k .dead)[q]? = if q = k then some .dead else st.bx.r[q]? := fun q => by
        rw [List.getElem?_set]
        by_cases e : k = q
        · subst e; simp [hkr]
        · rw [if_neg e, if_neg (fun h => e h.symm)]
      have hlive : r.isDead = false := by cases r <;> first | rfl | cases hc
      have hold : ∀ (q : Nat) x, (st.bx.r.set k .dead)[q]? = some x → x.isDead = false → st.bx.r[q]? = some x ∧ q ≠ k := by
        intro q x hx hd
        rw [hgr] at hx
        by_cases e : q = k
        · rw [if_pos e] at hx; injection hx with hx; subst hx; cases hd
        · rw [if_neg e] at hx; exact ⟨hx, e⟩
      have hA : ∀ b, Al S w0 bs st.bx.r b → b < w.heap.size → Al S w0 bs (st.bx.r.set k .dead) b := fun b hb _ => ⟨hb.1, hb.2.1, fun q x u hx hu hd => hb.2.2 q x u (hold q x hx hd).1 hu hd⟩
      have hbx := h.boxes.ext (Ext.refl w) hA
      exact
        { ext := h.ext
          xs := h.xs
          boxes := ⟨hbx.vars, by
            have hlen := hbx.rows.length
            have : bs.v.set k (bs.v.getD k undef) = bs.v := by
              apply List.ext_getElem?
              intro q
              rw [List.getElem?_set]
              by_cases e : k = q
              · subst e
                simp only [if_true]
                rcases Nat.lt_or_ge k bs.v.length with hlt | hge
                · simp [hlt]
                · rw [if_neg (by omega), List.getElem?_eq_none hge]
              · rw [if_neg e]
            have h2 := All2.set (R := fun (r : Rw) v => r.mean (Al S w0 bs (st.bx.r.set k .dead)) w v) k (x := .dead) (y := bs.v.getD k undef) hbx.rows trivial
            rw [this] at h2
            exact h2⟩
          nodup := h.nodup
          new := h.new
          rnew := fun q x u b hx hu hd ho => h.rnew q x u b (hold q x hx hd).1 hu hd ho
          rdist := fun q q' x x' u u' b hx hx' hu hu' hd hd' hne ho => h.rdist q q' x x' u u' b (hold q x hx hd).1 (hold q' x' hx' hd').1 hu hu' hd hd' hne ho
          slots := fun t => by
            simp only
            rw [look_map _ rfl]
            have hs := (h.slots t).ext (Ext.refl w) hA
            generalize look t st.sl = x at hs
            cases x with
            | own j =>
              show (cond (Nat.beq j k) (AV.one c) (AV.own j)).mean _ _ _ _
              cases hb : Nat.beq j k with
              | true =>
                have e := Nat.eq_of_beq_eq_true hb
                subst e
                have hs' : bs.v[j]? = some (a.tmps.getD t undef) := hs
                obtain ⟨v, hv, hm⟩ := h.boxes.rows.get hk
                rw [hs'] at hv
                injection hv with hv
                subst hv
                refine Rw.cv_mean hm hc hA (fun b ho => ?_)
                obtain ⟨n1, n2⟩ := h.rnew j r _ b hk hs' hlive ho
                exact ⟨n1.elim .inr (fun hx => .inl (h.xs b hx)), n2, fun q x u hx hu hd ho' => h.rdist j q r x _ u b hk (hold q x hx hd).1 hs' hu hlive hd (fun e => (hold q x hx hd).2 e.symm) ho ho'⟩
              | false => exact hs
            | ownAt j s i =>
              show (cond (Nat.beq j k) AV.any (AV.ownAt j s i)).mean _ _ _ _
              cases Nat.beq j k with
              | true => trivial
              | false => exact hs
            | part j lo n o =>
              show (cond (Nat.beq j k) AV.any (AV.part j lo n o)).mean _ _ _ _
              cases Nat.beq j k with
              | true => trivial
              | false => exact hs
            | _ => exact hs
          plain := fun t => by
            simp only
            rw [look_map _ rfl]
            have hp := h.plain t
            generalize look t st.sl = x at hp
            cases x with
            | own j => show (cond (Nat.beq j k) (AV.one c) (AV.own j)).isFresh = false; cases Nat.beq j k <;> rfl
            | ownAt j s i => show (cond (Nat.beq j k) AV.any (AV.ownAt j s i)).isFresh = false; cases Nat.beq j k <;> rfl
            | part j lo n o => show (cond (Nat.beq j k) AV.any (AV.part j lo n o)).isFresh = false; cases Nat.beq j k <;> rfl
            | _ => exact hp
          size := h.size
          defers := h.defers }
    · exact h
  · exact h

theorem Has.frz {a : Act} {w : World} {bs : An} : ∀ (l : List Operand) {st : St}, Has S X w0 nt st a w bs → Has S X w0 nt (frzAll l st) a w bs
  | [], _, h => h
  | x :: l, st, h => by
    unfold frzAll
    refine Has.frz l ?_
    split
    · exact h.freeze _
    · exact h

theorem doOp_sound (hE : E.Ok P) {o : Oper} {st : St} {K : St → Prop} (hd : ∀ d, o.dst = some d → d < nt) (h : doOp E o st K) {a : Act} {w : World} {bs : An} (hh0 : Has S X w0 nt st a w bs)
    (KK : Act → World → Prop) (Q : Exit → Act → World → Prop) (hK : ∀ st' a' w' bs', K st' → Has S X w0 nt st' a' w' bs' → KK a' w') : o.wp P a w KK Q := by
  have hh := hh0.frz (frzE E o.op)
  unfold doOp at h
  rw [frzAllK_eq, doOp1_eq] at h
  generalize frzAll (frzE E o.op) st = st at h hh
  have hρ := eval_mean hh
  unfold doOp1P at h
  split at h
  · rename_i t cs d ha hdst
    obtain ⟨us, hm, hw⟩ := allocOut_ok (P := P) hE hρ ha
    refine hw KK Q ?_
    rw [hdst]
    exact hK _ _ _ _ h (hh.alloc (hd d hdst) hm)
  · exact h.elim
  · split at h
    · rename_i k off vs hs hdst
      split at h
      · rename_i t cs hk
        obtain ⟨t', cs', b, us, ws, hk', hb, hheap, hm, hv, hl, hw⟩ := storeOut_ok (P := P) hE hh.boxes hρ hs
        rw [hk] at hk'
        injection hk' with hk'
        injection hk' with e1 e2
        subst e1
        subst e2
        refine hw KK Q ?_
        rw [hdst]
        exact hK _ _ _ _ h (hh.store hb hheap hm hv hl)
      · exact h.elim
    · exact h.elim
    · have hS : ∀ k r v b, nth st.bx.r k = some r → bs.v[k]? = some v → r.isDead = false → Al S w0 bs st.bx.r b → v.ownBlock ≠ some b := fun k r v b hk hv hl hb => hb.2.2 k r v (by rw [← nth_eq]; exact hk) hv hl
      have hvalue : ∀ {v : Value} {w' : World}, (execOp a.eval o).run P w = .ok (.value v) w' → KK (a.put o.dst v) w' → o.wp P a w KK Q := by
        intro v w' hr hk'
        unfold Oper.wp
        rw [hr]
        exact hk'
      have hskip : ∀ {w' : World}, (execOp a.eval o).run P w = .ok .skip w' → KK (a.put o.dst undef) w' → o.wp P a w KK Q := by
        intro w' hr hk'
        unfold Oper.wp
        rw [hr]
        exact hk'
      split at h
      · rename_i pre r d hr hdst
        obtain ⟨v, w', g1, g2, g3, g4, g5⟩ := rowOut_ok (P := P) hE hh.boxes hρ hS hr h.1
        refine hvalue g1 ?_
        rw [hdst]
        exact hK _ _ _ _ h.2 (hh.row g4 (hd d hdst) g2 g5)
      · rename_i pre k r d hr hdst
        obtain ⟨r0, v, v', w', g1, g2, g3, g4, g5, g6, g7, g8⟩ := rowOut_ok (P := P) hE hh.boxes hρ hS hr h.1
        refine hvalue g4 ?_
        rw [hdst]
        have h1 := hh.turn g1 g2 g3 g7 g5 g6 g8 (sl' := mapV (dropV k) st.sl) (fun t => by
          rw [look_map _ rfl]
          generalize look t st.sl = x
          cases x with
          | own j =>
            show cond (Nat.beq j k) AV.any (AV.own j) = _ ∨ cond (Nat.beq j k) AV.any (AV.own j) = _ ∧ _
            cases hb : Nat.beq j k with
            | true => exact .inl rfl
            | false => exact .inr ⟨rfl, .inr (fun e => by rw [e, Nat.beq_refl] at hb; cases hb)⟩
          | ownAt j s i =>
            show cond (Nat.beq j k) AV.any (AV.ownAt j s i) = _ ∨ cond (Nat.beq j k) AV.any (AV.ownAt j s i) = _ ∧ _
            cases hb : Nat.beq j k with
            | true => exact .inl rfl
            | false => exact .inr ⟨rfl, .inr (fun e => by rw [e, Nat.beq_refl] at hb; cases hb)⟩
          | part j lo n o =>
            show cond (Nat.beq j k) AV.any (AV.part j lo n o) = _ ∨ cond (Nat.beq j k) AV.any (AV.part j lo n o) = _ ∧ _
            cases hb : Nat.beq j k with
            | true => exact .inl rfl
            | false => exact .inr ⟨rfl, .inr (fun e => by rw [e, Nat.beq_refl] at hb; cases hb)⟩
          | _ => exact .inr ⟨rfl, .inr trivial⟩)
        refine hK _ _ _ _ h.2 (h1.put (Ext.refl _) (hd d hdst) ?_ rfl)
        show (bs.v.set k v')[k]? = some v'
        have := (List.getElem?_eq_some_iff.1 g2).1
        simp [this]
      · rename_i pre k r hr hdst
        obtain ⟨r0, v, w', g1, g2, g3, g4, g5, g6, g7⟩ := rowOut_ok (P := P) hE hh.boxes hρ hS hr h.1
        refine hskip g4 ?_
        rw [hdst]
        exact hK _ _ _ _ h.2 (hh.turn g1 g2 g3 g7 g5 g6 (.inl rfl) (fun t => .inr ⟨rfl, .inl rfl⟩))
      · rename_i pre k r n d hr hdst
        obtain ⟨r0, v, w', g1, g2, g3, g4, g5, g6, g7⟩ := rowOut_ok (P := P) hE hh.boxes hρ hS hr h.1
        refine hvalue g4 ?_
        rw [hdst]
        have h1 := hh.turn g1 g2 g3 g7 g5 g6 (.inl rfl) (sl' := st.sl) (fun t => .inr ⟨rfl, .inl rfl⟩)
        exact hK _ _ _ _ h.2 (h1.put (Ext.refl _) (hd d hdst) (x := .val (.int .i64 n)) rfl rfl)
      · rename_i pre k r n hr hdst
        obtain ⟨r0, v, w', g1, g2, g3, g4, g5, g6, g7⟩ := rowOut_ok (P := P) hE hh.boxes hρ hS hr h.1
        refine hvalue g4 ?_
        rw [hdst]
        exact hK _ _ _ _ h.2 (hh.turn g1 g2 g3 g7 g5 g6 (.inl rfl) (fun t => .inr ⟨rfl, .inl rfl⟩))
      · rename_i pre k r v d hr hdst
        obtain ⟨r0, v0, g1, g2, g3, g6, g4⟩ := rowOut_ok (P := P) hE hh.boxes hρ hS hr h.1
        refine g4 KK Q fun w' g5 g7 => ?_
        rw [hdst]
        have h1 := hh.turn g1 g2 g3 g7 g5 g6 (.inl rfl) (sl' := st.sl) (fun t => .inr ⟨rfl, .inl rfl⟩)
        exact hK _ _ _ _ h.2 (h1.put (Ext.refl _) (hd d hdst) (x := .val v) rfl rfl)
      · exact h.elim
      · exact h.elim
      · rename_i d _ hdst
        have good := opOut_good (P := P) hE hh.boxes hρ o
        have fin : ∀ x : AV, x.isFresh = false → Says P o a w (Fits (Al S w0 bs st.bx.r) bs w x) → K ⟨(d, x) :: st.sl, st.bx⟩ → o.wp P a w KK Q := by
          intro x hf hsay hKx
          refine hsay KK Q ?_
          rintro v w' ⟨he, hx⟩
          rw [hdst]
          refine hK _ _ _ _ hKx (hh.put he (hd d hdst) (AV.mean.ext hx (Ext.refl w') fun b hb _ => hh.al b hb) hf)
        split at h
        · rename_i x hx
          rw [hx] at good
          split at h
          · exact h.elim
          · rename_i hf
            exact fin x hf good h
        · rename_i pre x hx
          rw [hx] at good
          split at h
          · exact h.elim
          · rename_i hf
            exact fin x hf (good h.1) h.2
        · exact h.elim

theorem seqOps_sound (hE : E.Ok P) {ops : Array Oper} {Q : Exit → Act → World → Prop} : ∀ (l : List Oper) (st : St) (K : St → Prop), fits nt l = true → seqOps E (dstOf ops) l st K →
    ∀ (a : Act) (w : World) (bs : An), Has S X w0 nt st a w bs → (∀ st' a' w' bs', K st' → Has S X w0 nt st' a' w' bs' → Q .normal a' w') → (∀ j d, dstOf ops j = some d → d < nt) → wpList P ops Q l a w
  | [], st, K, _, h, a, w, bs, hh, hK, _ => hK st a w bs h hh
  | o :: l, st, K, hf, h, a, w, bs, hh, hK, hg => by
    simp only [fits, List.all_cons, Bool.and_eq_true] at hf
    obtain ⟨hf1, hf2⟩ := hf
    have hd : ∀ d, o.dst = some d → d < nt := fun d hd => by rw [hd] at hf1; exact Nat.le_of_ble_eq_true hf1
    have again := fun st' a' w' bs' (hs : seqOps E (dstOf ops) l st' K) (hh' : Has S X w0 nt st' a' w' bs') => seqOps_sound hE (Q := Q) l st' K hf2 hs a' w' bs' hh' hK hg
    refine wpList_step fun KK hKK => ?_
    unfold seqOps at h
    split at h
    · rename_i hgd
      rw [if_pos (by simp [Region.wanted, hgd])]
      exact doOp_sound hE hd h hh KK Q (fun st' a' w' bs' hs hh' => hKK _ _ (again st' a' w' bs' hs hh'))
    · rename_i j want hgd
      split at h
      · rename_i g d hgj hdst
        rw [withS_eq] at h
        split at h
        · rename_i b hb
          have hslot : a.tmps.getD g undef = .bool b := by
            have := hh.slots g
            rw [hb] at this
            exact this
          have hgl : g < a.tmps.size := by rw [hh.size]; exact hg j g hgj
          have hy : yielded ops a.tmps j = some b := by
            unfold yielded
            unfold dstOf at hgj
            rw [hgj]
            simp only [Option.bind_some]
            rw [Array.getElem?_eq_getElem hgl]
            have : a.tmps[g] = .bool b := by
              rw [← hslot]; simp [Array.getD_eq_getD_getElem?, hgl]
            rw [this]
          have hwant : Region.wanted o (yielded ops a.tmps) = (b == want) := by
            simp only [Region.wanted, hgd, hy]
            cases b <;> cases want <;> rfl
          rcases h with ⟨hbw, h⟩ | ⟨hbw, h⟩
          · subst hbw
            rw [setSK_self _ hb] at h
            rw [if_pos (by rw [hwant]; simp)]
            exact doOp_sound hE hd h hh KK Q (fun st' a' w' bs' hs hh' => hKK _ _ (again st' a' w' bs' hs hh'))
          · subst hbw
            rw [setSK_self _ hb] at h
            rw [if_neg (by rw [hwant]; cases want <;> simp)]
            refine hKK _ _ (again _ _ _ bs h ?_)
            rw [hdst]
            exact hh.put (Ext.refl w) (hd d hdst) (x := .val (.tuple #[])) rfl rfl
        · rename_i u hb
          have hslot : a.tmps.getD g undef = .tuple u := by
            have := hh.slots g
            rw [hb] at this
            exact this
          have hgl : g < a.tmps.size := by rw [hh.size]; exact hg j g hgj
          have hy : yielded ops a.tmps j = none := by
            unfold yielded
            unfold dstOf at hgj
            rw [hgj]
            simp only [Option.bind_some]
            rw [Array.getElem?_eq_getElem hgl]
            have : a.tmps[g] = .tuple u := by
              rw [← hslot]; simp [Array.getD_eq_getD_getElem?, hgl]
            rw [this]
          have hwant : Region.wanted o (yielded ops a.tmps) = false := by
            simp only [Region.wanted, hgd, hy]
            cases want <;> rfl
          rw [if_neg (by rw [hwant]; simp)]
          refine hKK _ _ (again _ _ _ bs h ?_)
          rw [hdst]
          exact hh.put (Ext.refl w) (hd d hdst) (x := .val (.tuple #[])) rfl rfl
        · exact h.elim
      · exact h.elim

end
end Go.Gm
