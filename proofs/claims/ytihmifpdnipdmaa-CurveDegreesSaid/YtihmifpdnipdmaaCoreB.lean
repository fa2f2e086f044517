/-
  The frame of all proofs of this seat, part B: what one operation does to abstract values. Plain theorems; no condition.
-/
import Derived.Test.YtihmifpdnipdmaaCoreA
set_option linter.all false
namespace Go.Gm
open Go.RowKit (Below)

/-- A row of the call's own. -/
inductive Rw where
  | n (e : TypeId) (l : List Nat)
  | s (e : TypeId) (k : Nat) (l : List (List BV))
  | ll (e : TypeId) (k : Nat) (l : List (List (List BV)))
  | dead

/-- Where the boxes lie, and the values of the rows. -/
structure An where
  b : List Nat
  v : List Value

/-- What is known of the boxes and rows of the call. -/
structure Bxs where
  b : List (TypeId × List CV)
  r : List Rw

/-- What is known of a slot. -/
inductive AV where
  | r (x : RV)
  | ptr (k off : Nat)
  | own (k : Nat)
  | ownAt (k sz j : Nat)
  | elem (cs : List CV)
  | fresh (t : TypeId) (cs : List CV)
  | freshN (e : TypeId) (l : List Nat)
  | part (k lo n : Nat) (o : Option (Nat × Nat × Nat))
  | tup (l : List RV)
  | any
  | same (t : Nat)

abbrev AV.one (c : CV) : AV := .r (.one c)
abbrev AV.agg (cs : List CV) : AV := .r (.agg cs)
abbrev AV.val (v : Value) : AV := .r (.one (.b (.val v)))

/-- Cells that lie one behind the other. -/
def CellsAt (w : World) (b off : Nat) (us : List Value) : Prop := ∀ j u, us[j]? = some u → w.cell? ⟨b, off + j, none⟩ = some u

def Rw.isDead : Rw → Bool
  | .dead => true
  | _ => false

def Rw.mean (S : Nat → Prop) (w : World) : Rw → Value → Prop
  | .n e l, v => Lim l ∧ w.ownsRow 0 e 1 v l.length (l.map fun x => .int .u32 ((x : Nat) : Int))
  | .s e k l, v => ∃ us, w.ownsRow 0 e k v l.length us ∧ (∀ u, u ∈ us → u.oneCell' = true) ∧ All2 (BV.mean S w) l.flatten us ∧ ∀ x, x ∈ l → x.length = k
  | .ll e k l, v => ∃ us, w.ownsRow 0 e 1 v l.length us ∧ All2 (Row S w k) l us
  | .dead, _ => True

def AV.mean (S : Nat → Prop) (bs : An) (w : World) : AV → Value → Prop
  | .r x, v => x.mean S w v
  | .ptr k off, v => ∃ b, bs.b[k]? = some b ∧ v = .pointer (some ⟨b, off, none⟩)
  | .own k, v => bs.v[k]? = some v
  | .ownAt k sz j, v => ∃ b n c, bs.v[k]? = some (.slice (some ⟨b, 0, none⟩) n c) ∧ v = .pointer (some ⟨b, j * sz, none⟩)
  | .elem cs, v => ∃ b off us, v = .pointer (some ⟨b, off, none⟩) ∧ S b ∧ b < w.heap.size ∧ All2 (CV.mean S w) cs us ∧ CellsAt w b off us
  | .fresh t cs, v => ∃ b us, v = .pointer (some ⟨b, 0, none⟩) ∧ w.heap[b]? = some (.cells us.toArray t (0, 0)) ∧ All2 (CV.mean S w) cs us
  | .freshN e l, v => Lim l ∧ w.ownsRow 0 e 1 v l.length (l.map fun x => .int .u32 ((x : Nat) : Int)) ∧ ∃ b, v.ownBlock = some b
  | .part k lo n o, v => ∃ b N c c', bs.v[k]? = some (.slice (some ⟨b, 0, none⟩) N c) ∧ (v = .slice (some ⟨b, lo, none⟩) n c' ∧ n ≤ c') ∧ ∀ x, o = some x → x = (b, N, c)
  | .tup l, v => (Res.t l).mean S w v
  | .any, _ => True
  | .same _, _ => True

def AV.isSame : AV → Bool
  | .same _ => true
  | _ => false

def AV.isFresh : AV → Bool
  | .fresh .. => true
  | .freshN .. => true
  | _ => false

theorem lt_of_heap {w : World} {b : Nat} {o : Obj} (h : w.heap[b]? = some o) : b < w.heap.size := by
  rcases Nat.lt_or_ge b w.heap.size with h1 | h1
  · exact h1
  · rw [Array.getElem?_eq_none h1] at h; cases h

theorem CellsAt.keep {S S' : Nat → Prop} {w w' : World} {b off : Nat} {us : List Value} (h : CellsAt w b off us) (hs : S b) (hb : b < w.heap.size) (e : Keeps S S' w w') : CellsAt w' b off us :=
  fun j u hj => (e.cell hs hb).trans (h j u hj)

theorem ownsRow_keep {w w' : World} {e size n : Nat} {v : Value} {xs : List Value} (h : w.ownsRow 0 e size v n xs) (hb : ∀ b, v.ownBlock = some b → b < w.heap.size → w'.heap[b]? = w.heap[b]?) : w'.ownsRow 0 e size v n xs := by
  obtain ⟨h1, h2⟩ := h
  refine ⟨h1, ?_⟩
  rcases h2 with h2 | ⟨g, cap, cur, hv, hg, hh, r⟩
  · exact .inl h2
  · refine .inr ⟨g, cap, cur, hv, hg, ?_, r⟩
    rw [hb g (by rw [hv]; rfl) (lt_of_heap hh)]
    exact hh

theorem AV.mean.keep {S S' : Nat → Prop} {bs : An} {w w' : World} {x : AV} {v : Value} (h : x.mean S bs w v) (e : Keeps S S' w w') (hf : x.isFresh = false) : x.mean S' bs w' v := by
  cases x with
  | r x => exact RV.mean.keep h e
  | ptr k off => exact h
  | own k => exact h
  | ownAt k sz j => exact h
  | elem cs =>
    obtain ⟨b, off, us, hv, hs, hb, hm, hc⟩ := h
    exact ⟨b, off, us, hv, (e.block b hs hb).1, Nat.lt_of_lt_of_le hb e.size, CV.all_keep hm e, hc.keep hs hb e⟩
  | fresh t cs => cases hf
  | freshN e' l => cases hf
  | part k lo n o => exact h
  | tup l => exact Res.mean.keep (x := .t l) h e
  | any => trivial
  | same t => trivial

theorem AV.mean.ext {S S' : Nat → Prop} {bs : An} {w w' : World} {x : AV} {v : Value} (h : x.mean S bs w v) (e : Ext w w') (hS : ∀ b, S b → b < w.heap.size → S' b) : x.mean S' bs w' v := by
  cases x with
  | fresh t cs =>
    obtain ⟨b, us, hv, hh, hm⟩ := h
    exact ⟨b, us, hv, (e.block b (lt_of_heap hh)).trans hh, CV.all_keep hm (e.keepsTo hS)⟩
  | freshN e' l => exact ⟨h.1, ownsRow_keep h.2.1 (fun b _ hb => e.block b hb), h.2.2⟩
  | _ => exact AV.mean.keep h (e.keepsTo hS) rfl

/-- More boxes and rows do not hurt. -/
theorem AV.mean.more {S : Nat → Prop} {bs : An} {w : World} {x : AV} {v : Value} (h : x.mean S bs w v) (cs : List Nat) (vs : List Value) : x.mean S ⟨bs.b ++ cs, bs.v ++ vs⟩ w v := by
  cases x with
  | ptr k off =>
    obtain ⟨b, hb, hv⟩ := h
    exact ⟨b, by simp only; rw [List.getElem?_append_left (List.getElem?_eq_some_iff.1 hb).1]; exact hb, hv⟩
  | own k =>
    have h' : bs.v[k]? = some v := h
    show (bs.v ++ vs)[k]? = some v
    rw [List.getElem?_append_left (List.getElem?_eq_some_iff.1 h').1]; exact h'
  | ownAt k sz j =>
    obtain ⟨b, n, c, hb, hv⟩ := h
    exact ⟨b, n, c, by simp only; rw [List.getElem?_append_left (List.getElem?_eq_some_iff.1 hb).1]; exact hb, hv⟩
  | part k lo n o =>
    obtain ⟨b, N, c, c', hb, hv⟩ := h
    exact ⟨b, N, c, c', by simp only; rw [List.getElem?_append_left (List.getElem?_eq_some_iff.1 hb).1]; exact hb, hv⟩
  | _ => exact h

theorem Rw.mean.keep {S S' : Nat → Prop} {w w' : World} {r : Rw} {v : Value} (h : r.mean S w v) (e : Keeps S S' w w') (hb : ∀ b, v.ownBlock = some b → b < w.heap.size → w'.heap[b]? = w.heap[b]?) : r.mean S' w' v := by
  cases r with
  | n t l => exact ⟨h.1, ownsRow_keep h.2 hb⟩
  | s t k l =>
    obtain ⟨us, h1, h0, h2, h3⟩ := h
    exact ⟨us, ownsRow_keep h1 hb, h0, h2.imp fun _ _ h => h.keep e, h3⟩
  | ll t k l =>
    obtain ⟨us, h1, h2⟩ := h
    exact ⟨us, ownsRow_keep h1 hb, h2.imp fun _ _ h => h.keep e⟩
  | dead => trivial

theorem Rw.mean.lt {S : Nat → Prop} {w : World} {r : Rw} {v : Value} (h : r.mean S w v) (hd : r.isDead = false) {b : Nat} (hb : v.ownBlock = some b) : b < w.heap.size := by
  have key : ∀ {e size n : Nat} {xs : List Value}, w.ownsRow 0 e size v n xs → b < w.heap.size := fun h => (h.lt b hb).2
  cases r with
  | n t l => exact key h.2
  | s t k l => obtain ⟨us, h1, _⟩ := h; exact key h1
  | ll t k l => obtain ⟨us, h1, _⟩ := h; exact key h1
  | dead => cases hd

/-- The boxes and rows of the call. -/
structure Boxes (S : Nat → Prop) (w : World) (bs : An) (bx : Bxs) : Prop where
  vars : All2 (fun (x : TypeId × List CV) b => ∃ us : List Value, w.heap[b]? = some (.cells us.toArray x.1 (0, 0)) ∧ All2 (CV.mean S w) x.2 us) bx.b bs.b
  rows : All2 (fun (r : Rw) v => r.mean S w v) bx.r bs.v

theorem All2.imp_mem {α β : Type} {R T : α → β → Prop} : ∀ {xs : List α} {ys : List β}, (∀ (k : Nat) x y, xs[k]? = some x → ys[k]? = some y → R x y → T x y) → All2 R xs ys → All2 T xs ys
  | [], [], _, _ => trivial
  | x :: xs, y :: ys, h, ⟨h1, h2⟩ => ⟨h 0 x y rfl rfl h1, All2.imp_mem (fun k x y hx hy => h (k + 1) x y (by simpa using hx) (by simpa using hy)) h2⟩
  | [], _ :: _, _, h => h.elim
  | _ :: _, [], _, h => h.elim

theorem Boxes.ext {S S' : Nat → Prop} {w w' : World} {bs : An} {bx : Bxs} (h : Boxes S w bs bx) (e : Ext w w') (hS : ∀ b, S b → b < w.heap.size → S' b) : Boxes S' w' bs bx :=
  ⟨h.vars.imp fun _ _ ⟨us, hh, hm⟩ => ⟨us, (e.block _ (lt_of_heap hh)).trans hh, CV.all_keep hm (e.keepsTo hS)⟩,
   h.rows.imp fun _ _ hr => hr.keep (e.keepsTo hS) fun b _ hb => e.block b hb⟩

/-- What is known of a type. -/
structure TI where
  size : Nat
  isAgg : Bool
  isArr : Bool
  zero : List CV
  fields : List (Nat × Nat)

structure TI.Ok (P : Program) (t : TypeId) (i : TI) : Prop where
  info : ∃ ti z, P.info? t = some ti ∧ ti.size = i.size ∧ ti.zero = some z ∧ z.cells.toList.length = i.size ∧ ∀ S w, All2 (CV.mean S w) i.zero z.cells.toList
  under : ∃ d, P.underlying t = some d ∧ (match d with
    | .struct fs => i.isAgg = true ∧ i.isArr = false ∧ i.fields.length = fs.size ∧ ∀ (j : Nat) (f : Field), fs[j]? = some f → (P.info? f.type).map (fun ti => (f.offset, ti.size)) = i.fields[j]? ∧ ∀ x, i.fields[j]? = some x → x.2 ≠ 0
    | .array n e => i.isAgg = true ∧ i.isArr = true ∧ i.fields.length = n ∧ ∃ ti, P.info? e = some ti ∧ ∀ (j : Nat) x, i.fields[j]? = some x → x = (j * ti.size, ti.size) ∧ x.2 ≠ 0
    | _ => i.isAgg = false ∧ i.isArr = false)

def CV.cell1 : CV → Bool
  | .b (.val v) => v.oneCell'
  | .any => false
  | _ => true

/-- What is known of a slice's type: the element's type and size; how nil reads. -/
structure SI where
  elem : TypeId
  esize : Nat
  zero : CV
  ezero : List BV

structure SI.Ok (P : Program) (t : TypeId) (i : SI) : Prop where
  under : P.underlying t = some (.slice i.elem)
  size : ∃ ti z, P.info? i.elem = some ti ∧ ti.size = i.esize ∧ ti.zero = some z ∧ z.cells.size = i.esize ∧ ti.bytes ≤ 4096 ∧ ∀ S w, All2 (BV.mean S w) i.ezero z.cells.toList
  pos : 0 < i.esize
  ezn : ∀ l, i.zero = .nat l → i.ezero = [.val (.int .u32 0)]
  ez1 : (i.ezero.map CV.b).all CV.cell1 = true
  zero : ∀ S w, i.zero.mean S w (.slice none 0 0)
  kind : i.zero = .nat [] ∨ i.zero = .sl i.esize [] ∨ ∃ n, i.zero = .sll n []

structure Env where
  tis : List (Nat × TI)
  nils : List (Nat × SI)
  ints : List (Nat × IntKind)
  bools : List Nat
  strs : List Nat
  eqs : List (Nat × (List CV → List CV → Option Bool))
  T : List (FuncId × (List RV → Option (Prop × Res)))
  flds : List (Nat × Nat × Nat × Nat) := []
  M : List (FuncId × Nat × (List RV → Option (Prop × TypeId × List Nat))) := []
  D : List (FuncId × (List Nat → Nat → Nat → List Nat → Option (Prop × List Nat × Int))) := []
  K : List (FuncId × (List Nat → Int → Option (Prop × Value))) := []

/-- A contract of a function that looks into a row and gives a plain value. -/
def ValidK (P : Program) (f : FuncId) (spec : List Nat → Int → Option (Prop × Value)) : Prop :=
  ∀ l i pre v, spec l i = some (pre, v) → pre → ∀ (S : Nat → Prop) (w : World) (sv : Value), Rd S w l sv → Calls P f #[sv, .int .i64 i] w (fun en w' => en = .returned v ∧ Ext w w')
def findK (f : Nat) : List (FuncId × (List Nat → Int → Option (Prop × Value))) → List Nat → Int → Option (Prop × Value)
  | [], _, _ => none
  | (g, s) :: l, a, b => cond (Nat.beq f g) (s a b) (findK f l a b)
theorem findK_mem {f : Nat} {a : List Nat} {b : Int} {r : Prop × Value} : ∀ {l : List (FuncId × (List Nat → Int → Option (Prop × Value)))}, findK f l a b = some r → ∃ s, (f, s) ∈ l ∧ s a b = some r
  | [], h => by cases h
  | (u, v) :: l, h => by
    unfold findK at h
    cases hb : Nat.beq f u with
    | true => rw [hb] at h; have := Nat.eq_of_beq_eq_true hb; subst this; exact ⟨v, List.mem_cons_self .., h⟩
    | false => rw [hb] at h; obtain ⟨s, h1, h2⟩ := findK_mem h; exact ⟨s, List.mem_cons_of_mem _ h1, h2⟩

/-- A contract of a function that gives a row of its own, not empty. -/
def ValidM (P : Program) (f : FuncId) (spec : List RV → Option (Prop × TypeId × List Nat)) : Prop :=
  ∀ xs pre e l, spec xs = some (pre, e, l) → pre → ∀ (S : Nat → Prop) (w : World) (vs : List Value), All2 (RV.mean S w) xs vs → Calls P f vs.toArray w (fun en w' => ∃ v, en = .returned v ∧ Ext w w' ∧
    (Lim l ∧ w'.ownsRow 0 e 1 v l.length (l.map fun x => .int .u32 ((x : Nat) : Int)) ∧ ∃ b, v.ownBlock = some b ∧ w.heap.size ≤ b))

/-- A contract of a function that changes a part of a row. -/
def ValidD (P : Program) (f : FuncId) (spec : List Nat → Nat → Nat → List Nat → Option (Prop × List Nat × Int)) : Prop :=
  ∀ l lo n lv pre l' q, spec l lo n lv = some (pre, l', q) → pre → ∀ (S : Nat → Prop) (w : World) (e b N c c' : Nat) (vv : Value), Lim l → w.ownsRow 0 e 1 (.slice (some ⟨b, 0, none⟩) N c) l.length (l.map fun x => .int .u32 ((x : Nat) : Int)) → n ≤ c' → Rd S w lv vv → ¬ S b →
    Calls P f #[.slice (some ⟨b, lo, none⟩) n c', vv] w (fun en w' => en = .returned (.int .u32 q) ∧ Lim l' ∧ w'.ownsRow 0 e 1 (.slice (some ⟨b, 0, none⟩) N c) l'.length (l'.map fun x => .int .u32 ((x : Nat) : Int)) ∧ w.grownBy w' (some b))

def findM (f d : Nat) : List (FuncId × Nat × (List RV → Option (Prop × TypeId × List Nat))) → List RV → Option (Prop × TypeId × List Nat)
  | [], _ => none
  | (g, d', s) :: l, xs => cond (Nat.beq f g && Nat.beq d d') (s xs) (findM f d l xs)
def findD (f : Nat) : List (FuncId × (List Nat → Nat → Nat → List Nat → Option (Prop × List Nat × Int))) → List Nat → Nat → Nat → List Nat → Option (Prop × List Nat × Int)
  | [], _, _, _, _ => none
  | (g, s) :: l, a, b, c, d => cond (Nat.beq f g) (s a b c d) (findD f l a b c d)

/-- '==' and '!=' at a struct's type, cell by cell. -/
def EqOk (P : Program) (t : TypeId) (q : List CV → List CV → Option Bool) : Prop :=
  ∀ cs ds r, q cs ds = some r → ∀ (S : Nat → Prop) (w : World) (us vs : List Value), All2 (CV.mean S w) cs us → All2 (CV.mean S w) ds vs → ∀ (x y : Operand),
    (do eqGuard .eql t x y (.agg us.toArray) (.agg vs.toArray); binOp .eql t (.agg us.toArray) (.agg vs.toArray) : Sem Value).run P w = .ok (.bool r) w ∧
    (do eqGuard .neq t x y (.agg us.toArray) (.agg vs.toArray); binOp .neq t (.agg us.toArray) (.agg vs.toArray) : Sem Value).run P w = .ok (.bool !r) w

def tinfo (t : Nat) : List (Nat × TI) → Option TI
  | [] => none
  | (u, v) :: l => cond (Nat.beq t u) (some v) (tinfo t l)
def tnil (t : Nat) : List (Nat × SI) → Option SI
  | [] => none
  | (u, v) :: l => cond (Nat.beq t u) (some v) (tnil t l)
def tint (t : Nat) : List (Nat × IntKind) → Option IntKind
  | [] => none
  | (u, v) :: l => cond (Nat.beq t u) (some v) (tint t l)
def teq (t : Nat) : List (Nat × (List CV → List CV → Option Bool)) → List CV → List CV → Option Bool
  | [], _, _ => none
  | (u, v) :: l, cs, ds => cond (Nat.beq t u) (v cs ds) (teq t l cs ds)
def find (f : FuncId) : List (FuncId × (List RV → Option (Prop × Res))) → List RV → Option (Prop × Res)
  | [], _ => none
  | (g, s) :: l, xs => cond (Nat.beq f g) (s xs) (find f l xs)

def tfld (t f : Nat) : List (Nat × Nat × Nat × Nat) → Option (Nat × Nat)
  | [] => none
  | (u, g, o, n) :: l => cond (Nat.beq t u && Nat.beq f g) (some (o, n)) (tfld t f l)

structure Env.Ok (P : Program) (E : Env) : Prop where
  tis : ∀ t i, (t, i) ∈ E.tis → i.Ok P t
  nils : ∀ t c, (t, c) ∈ E.nils → c.Ok P t
  ints : ∀ t k, (t, k) ∈ E.ints → P.underlying t = some (.int k)
  bools : ∀ t, t ∈ E.bools → P.underlying t = some .bool
  strs : ∀ t, t ∈ E.strs → P.underlying t = some .string
  eqs : ∀ t q, (t, q) ∈ E.eqs → EqOk P t q
  T : ∀ f s, (f, s) ∈ E.T → Valid P f s ∧ ∃ fn, P.funcs[f]? = some fn ∧ fn.body.isNone = false ∧ (fn.name == "runtime.NumGoroutine") = false
  flds : ∀ t f o n, (t, f, o, n) ∈ E.flds → ∀ (w : World) (us : List Value), (Instr.field t (.agg us.toArray) f).run P w = .ok (.agg ((us.drop o).take n).toArray) w
  M : ∀ f d s, (f, d, s) ∈ E.M → ValidM P f s ∧ ∃ fn, P.funcs[f]? = some fn ∧ fn.body.isNone = false ∧ (fn.name == "runtime.NumGoroutine") = false
  D : ∀ f s, (f, s) ∈ E.D → ValidD P f s ∧ ∃ fn, P.funcs[f]? = some fn ∧ fn.body.isNone = false ∧ (fn.name == "runtime.NumGoroutine") = false
  K : ∀ f s, (f, s) ∈ E.K → ValidK P f s ∧ ∃ fn, P.funcs[f]? = some fn ∧ fn.body.isNone = false ∧ (fn.name == "runtime.NumGoroutine") = false

theorem findM_mem {f d : Nat} {xs : List RV} {r : Prop × TypeId × List Nat} : ∀ {l : List (FuncId × Nat × (List RV → Option (Prop × TypeId × List Nat)))}, findM f d l xs = some r → ∃ s, (f, d, s) ∈ l ∧ s xs = some r
  | [], h => by cases h
  | (u, d', v) :: l, h => by
    unfold findM at h
    cases hb : (Nat.beq f u && Nat.beq d d') with
    | true =>
      rw [hb] at h
      simp only [Bool.and_eq_true] at hb
      have e1 := Nat.eq_of_beq_eq_true hb.1
      have e2 := Nat.eq_of_beq_eq_true hb.2
      subst e1
      subst e2
      exact ⟨v, List.mem_cons_self .., h⟩
    | false => rw [hb] at h; obtain ⟨s, h1, h2⟩ := findM_mem h; exact ⟨s, List.mem_cons_of_mem _ h1, h2⟩
theorem findD_mem {f : Nat} {a : List Nat} {b c : Nat} {d : List Nat} {r : Prop × List Nat × Int} : ∀ {l : List (FuncId × (List Nat → Nat → Nat → List Nat → Option (Prop × List Nat × Int)))}, findD f l a b c d = some r → ∃ s, (f, s) ∈ l ∧ s a b c d = some r
  | [], h => by cases h
  | (u, v) :: l, h => by
    unfold findD at h
    cases hb : Nat.beq f u with
    | true => rw [hb] at h; have := Nat.eq_of_beq_eq_true hb; subst this; exact ⟨v, List.mem_cons_self .., h⟩
    | false => rw [hb] at h; obtain ⟨s, h1, h2⟩ := findD_mem h; exact ⟨s, List.mem_cons_of_mem _ h1, h2⟩

theorem tfld_mem {t f o n : Nat} : ∀ {l : List (Nat × Nat × Nat × Nat)}, tfld t f l = some (o, n) → (t, f, o, n) ∈ l
  | [], h => by cases h
  | (u, g, o', n') :: l, h => by
    unfold tfld at h
    cases hb : (Nat.beq t u && Nat.beq f g) with
    | true =>
      rw [hb] at h
      simp only [Bool.and_eq_true] at hb
      have e1 := Nat.eq_of_beq_eq_true hb.1
      have e2 := Nat.eq_of_beq_eq_true hb.2
      subst e1
      subst e2
      injection h with h
      injection h with h1 h2
      subst h1
      subst h2
      exact List.mem_cons_self ..
    | false => rw [hb] at h; exact List.mem_cons_of_mem _ (tfld_mem h)

theorem tinfo_mem {t : Nat} {i : TI} : ∀ {l : List (Nat × TI)}, tinfo t l = some i → (t, i) ∈ l
  | [], h => by cases h
  | (u, v) :: l, h => by
    unfold tinfo at h
    cases hb : Nat.beq t u with
    | true => rw [hb] at h; have := Nat.eq_of_beq_eq_true hb; subst this; injection h with h; subst h; exact List.mem_cons_self ..
    | false => rw [hb] at h; exact List.mem_cons_of_mem _ (tinfo_mem h)
theorem tnil_mem {t : Nat} {i : SI} : ∀ {l : List (Nat × SI)}, tnil t l = some i → (t, i) ∈ l
  | [], h => by cases h
  | (u, v) :: l, h => by
    unfold tnil at h
    cases hb : Nat.beq t u with
    | true => rw [hb] at h; have := Nat.eq_of_beq_eq_true hb; subst this; injection h with h; subst h; exact List.mem_cons_self ..
    | false => rw [hb] at h; exact List.mem_cons_of_mem _ (tnil_mem h)
theorem tint_mem {t : Nat} {i : IntKind} : ∀ {l : List (Nat × IntKind)}, tint t l = some i → (t, i) ∈ l
  | [], h => by cases h
  | (u, v) :: l, h => by
    unfold tint at h
    cases hb : Nat.beq t u with
    | true => rw [hb] at h; have := Nat.eq_of_beq_eq_true hb; subst this; injection h with h; subst h; exact List.mem_cons_self ..
    | false => rw [hb] at h; exact List.mem_cons_of_mem _ (tint_mem h)
theorem teq_mem {t : Nat} {cs ds : List CV} {r : Bool} : ∀ {l : List (Nat × (List CV → List CV → Option Bool))}, teq t l cs ds = some r → ∃ q, (t, q) ∈ l ∧ q cs ds = some r
  | [], h => by cases h
  | (u, v) :: l, h => by
    unfold teq at h
    cases hb : Nat.beq t u with
    | true => rw [hb] at h; have := Nat.eq_of_beq_eq_true hb; subst this; exact ⟨v, List.mem_cons_self .., h⟩
    | false => rw [hb] at h; obtain ⟨s, h1, h2⟩ := teq_mem h; exact ⟨s, List.mem_cons_of_mem _ h1, h2⟩
theorem find_mem {f : Nat} {xs : List RV} {r : Prop × Res} : ∀ {l : List (FuncId × (List RV → Option (Prop × Res)))}, find f l xs = some r → ∃ s, (f, s) ∈ l ∧ s xs = some r
  | [], h => by cases h
  | (u, v) :: l, h => by
    unfold find at h
    cases hb : Nat.beq f u with
    | true => rw [hb] at h; have := Nat.eq_of_beq_eq_true hb; subst this; exact ⟨v, List.mem_cons_self .., h⟩
    | false => rw [hb] at h; obtain ⟨s, h1, h2⟩ := find_mem h; exact ⟨s, List.mem_cons_of_mem _ h1, h2⟩

/-- The n-th of a list. -/
def nth {α : Type} : List α → Nat → Option α
  | [], _ => none
  | x :: _, 0 => some x
  | _ :: l, n + 1 => nth l n
theorem nth_eq {α : Type} : ∀ (l : List α) (n : Nat), nth l n = l[n]?
  | [], n => by simp [nth]
  | x :: l, 0 => by simp [nth]
  | x :: l, n + 1 => by simp [nth, nth_eq l n]

/-- nil, at its type. -/
def nilTo (E : Env) (t : TypeId) : AV → AV
  | .r (.one (.b (.val (.slice none 0 0)))) => match tnil t E.nils with
    | some c => .r (.one c.zero)
    | none => .r (.one (.b (.val (.slice none 0 0))))
  | v => v

/-- Cells written over cells. -/
def splice : List CV → Nat → List CV → List CV
  | cs, 0, vs => vs ++ cs.drop vs.length
  | [], _ + 1, _ => []
  | c :: cs, n + 1, vs => c :: splice cs n vs

def cellsOf : AV → Option (List CV)
  | .r (.one c) => some [c]
  | .r (.agg cs) => some cs
  | _ => none

def mkAV (i : TI) (cs : List CV) : Option AV :=
  match i.isAgg, cs with
  | true, cs => some (.agg cs)
  | false, [c] => some (.one c)
  | false, _ => none

def AV.cell1 : AV → Bool
  | .r (.one c) => c.cell1
  | _ => true

def toRV : AV → Option RV
  | .r x => some x
  | _ => none
def toRVs : List AV → Option (List RV)
  | [] => some []
  | x :: l => match toRV x, toRVs l with
    | some y, some ys => some (y :: ys)
    | _, _ => none

/-- Parts put into a struct's cells; the last check: no part is longer than its place. -/
def fillA (fields : List (Nat × Nat)) : List CV → List (Nat × AV) → Option (List CV)
  | cs, [] => some cs
  | cs, (f, v) :: l => match cellsOf v, nth fields f with
    | some vs, some (o, n) => cond (Nat.beq vs.length n && Nat.ble (o + vs.length) cs.length && v.cell1) (fillA fields (splice cs o vs) l) none
    | _, _ => none

/-- Cells that may lie inside a slice. -/
def toBVs : List CV → Option (List BV)
  | [] => some []
  | .b x :: l => match toBVs l with
    | some ys => some (x :: ys)
    | none => none
  | _ :: _ => none

/-- The elements of a slice that is written out: in order, each whole. -/
def partsS (E : Env) (t : TypeId) (n : Nat) : Nat → List (Nat × AV) → Option (List (List BV))
  | _, [] => some []
  | i, (j, v) :: l => match cellsOf (nilTo E t v), partsS E t n (i + 1) l with
    | some cs, some r => (match toBVs cs with
      | some x => cond (Nat.beq i j && Nat.beq x.length n && cs.all CV.cell1 && (nilTo E t v).cell1) (some (x :: r)) none
      | none => none)
    | _, _ => none
def partsL (E : Env) (t : TypeId) (n : Nat) : Nat → List (Nat × AV) → Option (List (List (List BV)))
  | _, [] => some []
  | i, (j, v) :: l => match nilTo E t v, partsL E t n (i + 1) l with
    | .r (.one (.sl m x)), some r => cond (Nat.beq i j && Nat.beq m n) (some (x :: r)) none
    | _, _ => none
def partsN : Nat → List (Nat × AV) → Option (List Int)
  | _, [] => some []
  | i, (j, v) :: l => match v, partsN (i + 1) l with
    | .r (.one (.b (.val (.int .u32 x)))), some r => cond (Nat.beq i j) (some (x :: r)) none
    | _, _ => none

def allU32 : List Int → Prop
  | [] => True
  | x :: l => (0 ≤ x ∧ x < 4294967296) ∧ allU32 l

inductive Out where
  | ok (x : AV)
  | val (pre : Prop) (x : AV)
  | bad

/-- Two integers. -/
def binInt (op : BinOp) (k : IntKind) (a b : Int) : Out :=
  match op with
  | .add => .ok (.val (.int k (k.wrap (a + b))))
  | .sub => .ok (.val (.int k (k.wrap (a - b))))
  | .mul => .ok (.val (.int k (k.wrap (a * b))))
  | .quo => .val (b ≠ 0) (.val (.int k (k.wrap (a.tdiv b))))
  | .rem => .val (b ≠ 0) (.val (.int k (a.tmod b)))
  | .and => .ok (.val (.int k (bits .and k a b)))
  | .or => .ok (.val (.int k (bits .or k a b)))
  | .eql => .ok (.val (.bool (a == b)))
  | .neq => .ok (.val (.bool (a != b)))
  | .lss => .ok (.val (.bool (a < b)))
  | .leq => .ok (.val (.bool (a ≤ b)))
  | .gtr => .ok (.val (.bool (a > b)))
  | .geq => .ok (.val (.bool (a ≥ b)))
  | _ => .bad

def binOut (E : Env) (op : BinOp) (t : TypeId) (x y : AV) : Out :=
  match x, y with
  | .r (.agg cs), .r (.agg ds) => (match op, teq t E.eqs cs ds with
    | .eql, some r => .ok (.val (.bool r))
    | .neq, some r => .ok (.val (.bool !r))
    | _, _ => .bad)
  | .r (.one (.b (.val (.int k a)))), .r (.one (.b (.val (.int k' b)))) => (match op with
    | .shl => .val (0 ≤ b) (.val (.int k (k.wrap (a * 2 ^ min b.toNat k.bits))))
    | .shr => .val (0 ≤ b) (.val (.int k (a.fdiv (2 ^ min b.toNat k.bits))))
    | _ => cond (decide (k = k')) (binInt op k a b) .bad)
  | .r (.one (.b (.val (.bool a)))), .r (.one (.b (.val (.bool b)))) => (match op, E.bools.contains t with
    | .eql, true => .ok (.val (.bool (a == b)))
    | .neq, true => .ok (.val (.bool (!(a == b))))
    | _, _ => .bad)
  | _, _ => .bad

def unOut (op : UnOp) (x : AV) : Out :=
  match op, x with
  | .neg, .r (.one (.b (.val (.int k a)))) => .ok (.val (.int k (k.wrap (0 - a))))
  | .not, .r (.one (.b (.val (.bool b)))) => .ok (.val (.bool !b))
  | _, _ => .bad


/-- A new box. -/
def allocOut (E : Env) (ρ : Operand → AV) : Op → Option (TypeId × List CV)
  | .alloc t => (match tinfo t E.tis with
    | some i => some (t, i.zero)
    | none => none)
  | .box t x => (match cellsOf (ρ x), (ρ x).cell1 with
    | some cs, true => some (t, cs)
    | _, _ => none)
  | _ => none

/-- A store into a box. -/
def storeOut (E : Env) (bx : Bxs) (ρ : Operand → AV) : Op → Option (Nat × Nat × List CV)
  | .store t x y => (match tinfo t E.tis, ρ x, cellsOf (nilTo E t (ρ y)) with
    | some i, .ptr k off, some vs => (match nth bx.b k with
      | some (_, cs) => cond (Nat.beq vs.length i.size && Nat.ble (off + vs.length) cs.length && vs.all CV.cell1 && (nilTo E t (ρ y)).cell1) (some (k, off, vs)) none
      | none => none)
    | _, _, _ => none)
  | _ => none

/-- A bound of a slice. -/
def boundV (ρ : Operand → AV) : Option Operand → Option (Option Int)
  | none => some none
  | some x => match ρ x with
    | .r (.one (.b (.val (.int _ n)))) => some (some n)
    | _ => none

/-- A part of a list. -/
def cutL {α : Type} (l : List α) : Option Int → Option Int → List α
  | none, none => l
  | none, some h => l.take h.toNat
  | some a, none => l.drop a.toNat
  | some a, some h => (l.take h.toNat).drop a.toNat

def cutLo : Option Int → Nat
  | none => 0
  | some a => a.toNat
def cutHi (n : Nat) : Option Int → Nat
  | none => n
  | some h => h.toNat

def cutPre (n : Nat) : Option Int → Option Int → Prop
  | none, none => True
  | none, some h => 0 ≤ h ∧ h ≤ n
  | some a, none => 0 ≤ a ∧ a ≤ n
  | some a, some h => 0 ≤ a ∧ a ≤ h ∧ h ≤ n

/-- What an operation gives, by what is known of its operands. -/
def opOut (E : Env) (bx : Bxs) (ρ : Operand → AV) (o : Oper) : Out :=
  match o.op with
  | .move x => .ok (ρ x)
  | .assign x => .ok (ρ x)
  | .pick c x y => (match ρ c with
    | .r (.one (.b (.val (.bool true)))) => .ok (ρ x)
    | .r (.one (.b (.val (.bool false)))) => .ok (ρ y)
    | _ => .bad)
  | .build t ps => (match tinfo t E.tis with
    | some i => (match i.isArr, i.isAgg, fillA i.fields i.zero (ps.toList.map fun p => (p.1, nilTo E 0 (ρ p.2))) with
      | false, true, some cs => .ok (.agg cs)
      | _, _, _ => .bad)
    | none => .bad)
  | .load t x => (match tinfo t E.tis with
    | some i => (match ρ x with
      | .ptr k off => (match nth bx.b k with
        | some (_, cs) => (match mkAV i ((cs.drop off).take i.size), Nat.ble (off + i.size) cs.length with
          | some v, true => .ok v
          | _, _ => .bad)
        | none => .bad)
      | .elem cs => (match mkAV i (cs.take i.size), Nat.ble i.size cs.length with
        | some v, true => .ok v
        | _, _ => .bad)
      | .ownAt k sz j => (match nth bx.r k, i.isAgg with
        | some (.n _ l), false => cond (Nat.beq sz 1) (.val (j < l.length) (.val (.int .u32 (l.getD j 0 : Nat)))) .bad
        | some (.s _ n l), true => cond (Nat.beq sz n && Nat.beq i.size n) (.val (j < l.length) (.agg ((l.getD j []).map .b))) .bad
        | some (.ll _ n l), false => cond (Nat.beq sz 1) (.val (j < l.length) (.one (.sl n (l.getD j [])))) .bad
        | _, _ => .bad)
      | _ => .bad)
    | none => .bad)
  | .binOp op t x y _ => binOut E op t (ρ x) (ρ y)
  | .unOp op _ x => unOut op (ρ x)
  | .convert s d x => (match tint s E.ints, tint d E.ints, ρ x with
    | some _, some k, .r (.one (.b (.val (.int _ n)))) => .ok (.val (.int k (k.wrap n)))
    | _, _, _ => .bad)
  | .fieldAddr t x f => (match tinfo t E.tis with
    | some i => (match ρ x, nth i.fields f, i.isArr, i.isAgg with
      | .ptr k off, some (o, _), false, true => .ok (.ptr k (off + o))
      | .elem cs, some (o, _), false, true => .ok (.elem (cs.drop o))
      | _, _, _, _ => .bad)
    | none => .bad)
  | .extract x n => (match ρ x with
    | .tup l => (match nth l n with
      | some y => .ok (.r y)
      | none => .bad)
    | _ => .bad)
  | .call { callee := .value (.func f), args, argTypes } => (match toRVs ((args.toList.zip argTypes.toList).map fun p => nilTo E p.2 (ρ p.1)), Nat.beq args.size argTypes.size with
    | some xs, true => (match find f E.T xs with
      | some (pre, .r x) => .val pre (.r x)
      | some (pre, .t l) => .val pre (.tup l)
      | none => .bad)
    | _, _ => .bad)
  | .call { callee := .value (.tmp c), args, argTypes } => (match ρ (.tmp c) with
    | .r (.one (.b (.val (.func (.func f) ⟨[]⟩ ⟨[]⟩)))) => (match toRVs ((args.toList.zip argTypes.toList).map fun p => nilTo E p.2 (ρ p.1)), Nat.beq args.size argTypes.size with
      | some xs, true => (match find f E.T xs with
        | some (pre, .r x) => .val pre (.r x)
        | some (pre, .t l) => .val pre (.tup l)
        | none => .bad)
      | _, _ => .bad)
    | _ => .bad)
  | .buildSlice t n ps => (match tnil t E.nils with
    | some s => (match s.zero with
      | .b (.nat _) => (match partsN 0 (ps.toList.map fun p => (p.1, ρ p.2)) with
        | some xs => cond (Nat.beq xs.length n && Nat.beq s.esize 1 && Nat.ble n 1000 && Nat.blt 0 n) (.val (allU32 xs) (.one (.nat (xs.map Int.toNat)))) .bad
        | none => .bad)
      | .sl _ _ => (match partsS E s.elem s.esize 0 (ps.toList.map fun p => (p.1, ρ p.2)) with
        | some l => cond (Nat.beq l.length n && Nat.ble (n * s.esize) 1000 && Nat.blt 0 n) (.ok (.one (.sl s.esize l))) .bad
        | none => .bad)
      | .sll m _ => (match partsL E s.elem m 0 (ps.toList.map fun p => (p.1, ρ p.2)) with
        | some l => cond (Nat.beq l.length n && Nat.beq s.esize 1 && Nat.ble n 1000 && Nat.blt 0 n) (.ok (.one (.sll m l))) .bad
        | none => .bad)
      | _ => .bad)
    | none => .bad)
  | .call { callee := .builtin .len, args, argTypes } => (match args.toList, argTypes.toList with
    | [x], [t] => (match nilTo E t (ρ x), tnil t E.nils with
      | .r (.one (.b (.nat l))), some _ => .ok (.val (.int .i64 l.length))
      | .r (.one (.sl _ l)), some _ => .ok (.val (.int .i64 l.length))
      | .r (.one (.sll _ l)), some _ => .ok (.val (.int .i64 l.length))
      | .part _ _ n _, some _ => .ok (.val (.int .i64 n))
      | .own k, some _ => (match nth bx.r k with
        | some (.n _ l) => .ok (.val (.int .i64 l.length))
        | some (.s _ _ l) => .ok (.val (.int .i64 l.length))
        | some (.ll _ _ l) => .ok (.val (.int .i64 l.length))
        | _ => .bad)
      | _, _ => .bad)
    | _, _ => .bad)
  | .indexAddr t x i => (match ρ i with
    | .r (.one (.b (.val (.int _ j)))) => (match tnil t E.nils with
      | some s => (match ρ x with
        | .r (.one (.b (.nat l))) => cond (Nat.beq s.esize 1) (.val (0 ≤ j ∧ j < l.length) (.elem [.val (.int .u32 (l.getD j.toNat 0 : Nat))])) .bad
        | .r (.one (.sl n l)) => cond (Nat.beq s.esize n) (.val (0 ≤ j ∧ j < l.length) (.elem ((l.getD j.toNat []).map .b))) .bad
        | .r (.one (.sll n l)) => cond (Nat.beq s.esize 1) (.val (0 ≤ j ∧ j < l.length) (.elem [.sl n (l.getD j.toNat [])])) .bad
        | .own k => (match nth bx.r k with
          | some (.n _ l) => cond (Nat.beq s.esize 1) (.val (0 ≤ j ∧ j < l.length) (.ownAt k 1 j.toNat)) .bad
          | some (.s _ n l) => cond (Nat.beq s.esize n) (.val (0 ≤ j ∧ j < l.length) (.ownAt k n j.toNat)) .bad
          | some (.ll _ _ l) => cond (Nat.beq s.esize 1) (.val (0 ≤ j ∧ j < l.length) (.ownAt k 1 j.toNat)) .bad
          | _ => .bad)
        | .part k lo n _ => (match nth bx.r k with
          | some (.n _ _) => cond (Nat.beq s.esize 1) (.val (0 ≤ j ∧ j < n) (.ownAt k 1 (lo + j.toNat))) .bad
          | _ => .bad)
        | _ => .bad)
      | none => (match tinfo t E.tis, ρ x with
        | some ti, .ptr k off => (match nth ti.fields j.toNat, ti.isArr with
          | some (o, _), true => .val (0 ≤ j) (.ptr k (off + o))
          | _, _ => .bad)
        | _, _ => .bad))
    | _ => .bad)
  | .slice t x lo hi none => (match tnil t E.nils, nilTo E t (ρ x), boundV ρ lo, boundV ρ hi with
    | some s, .r (.one (.b (.nat l))), some lo, some hi => cond (Nat.beq s.esize 1) (.val (cutPre l.length lo hi) (.one (.nat (cutL l lo hi)))) .bad
    | some s, .r (.one (.sl n l)), some lo, some hi => cond (Nat.beq s.esize n) (.val (cutPre l.length lo hi) (.one (.sl n (cutL l lo hi)))) .bad
    | some s, .own k, some lo, some hi => (match nth bx.r k with
      | some (.n _ l) => cond (Nat.beq s.esize 1) (.val (cutPre l.length lo hi ∧ cutLo lo < cutHi l.length hi) (.part k (cutLo lo) (cutHi l.length hi - cutLo lo) none)) .bad
      | _ => .bad)
    | _, _, _, _ => .bad)
  | .call { callee := .builtin .max, args, .. } => (match args.toList with
    | [x, y] => (match ρ x, ρ y with
      | .r (.one (.b (.val (.int k a)))), .r (.one (.b (.val (.int _ b)))) => .ok (.val (.int k (if b > a then b else a)))
      | _, _ => .bad)
    | _ => .bad)
  | .call { callee := .builtin .min, args, .. } => (match args.toList with
    | [x, y] => (match ρ x, ρ y with
      | .r (.one (.b (.val (.int k a)))), .r (.one (.b (.val (.int _ b)))) => .ok (.val (.int k (if b < a then b else a)))
      | _, _ => .bad)
    | _ => .bad)
  | .field t x f => (match ρ x, tfld t f E.flds with
    | .r (.agg cs), some (o, n) => .ok (.agg ((cs.drop o).take n))
    | _, _ => .bad)
  | .index t x i => (match ρ x, ρ i, E.strs.contains t with
    | .r (.one (.b (.val (.string s)))), .r (.one (.b (.val (.int _ j)))), true => .val (0 ≤ j ∧ j.toNat < s.size) (.val (.int .u8 ((s[j.toNat]?.getD 0).toNat : Nat)))
    | _, _, _ => .bad)
  | _ => .bad

end Go.Gm
