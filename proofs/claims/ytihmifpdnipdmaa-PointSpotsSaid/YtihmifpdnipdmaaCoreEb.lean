/-
  The frame of all proofs of this seat, part Eb: operations on rows of the call's own. Plain theorems; no condition.
-/
import Derived.Test.YtihmifpdnipdmaaCoreE
import Derived.Maps.AppendAt
set_option linter.all false
namespace Go.Gm
open Go.RowKit (Below)

/-- What an operation does to the rows. -/
inductive RowAct where
  | mk (r : Rw)
  | set (k : Nat) (r : Rw)
  | app (k : Nat) (r : Rw)
  | cp (k : Nat) (r : Rw) (n : Nat)
  | dig (k : Nat) (r : Rw) (v : Value)

/-- A row made longer by what a slice holds. -/
def appRw : Rw → AV → Option (Prop × Rw)
  | .n e l, .r (.one (.b (.nat l2))) => some (l.length + l2.length ≤ 1000000, .n e (l ++ l2))
  | .s e n l, .r (.one (.sl m l2)) => cond (Nat.beq m n) (some (l.length + l2.length ≤ 1000000, .s e n (l ++ l2))) none
  | .ll e n l, .r (.one (.sll m l2)) => cond (Nat.beq m n) (some (l.length + l2.length ≤ 1000000, .ll e n (l ++ l2))) none
  | _, _ => none

/-- nil as a row. -/
def nilRw (s : SI) : Option Rw := match s.zero with
  | .b (.nat _) => cond (Nat.beq s.esize 1) (some (.n s.elem [])) none
  | .sl _ _ => some (.s s.elem s.esize [])
  | .sll n _ => cond (Nat.beq s.esize 1) (some (.ll s.elem n [])) none
  | _ => none

/-- The row is of the slice's type. -/
def rwIs (s : SI) : Rw → Bool
  | .n e _ => Nat.beq e s.elem && Nat.beq s.esize 1
  | .s e n _ => Nat.beq e s.elem && Nat.beq n s.esize
  | .ll e _ _ => Nat.beq e s.elem && Nat.beq s.esize 1
  | .dead => false

def rowOut (E : Env) (bx : Bxs) (ρ : Operand → AV) : Op → Option (Prop × RowAct)
  | .makeSlice t x y => (match tnil t E.nils, ρ x, ρ y with
    | some s, .r (.one (.b (.val (.int .i64 a)))), .r (.one (.b (.val (.int .i64 c)))) => (match s.zero with
      | .b (.nat _) => cond (Nat.beq s.esize 1) (some (0 ≤ a ∧ a ≤ c ∧ c ≤ 1000000, .mk (.n s.elem (List.replicate a.toNat 0)))) none
      | .sl _ _ => cond (Nat.beq s.ezero.length s.esize) (some (0 ≤ a ∧ a ≤ c ∧ c ≤ 1000000, .mk (.s s.elem s.esize (List.replicate a.toNat s.ezero)))) none
      | _ => none)
    | _, _, _ => none)
  | .buildSlice t n ps => (match tnil t E.nils with
    | some s => (match s.zero with
      | .b (.nat _) => (match partsN 0 (ps.toList.map fun p => (p.1, ρ p.2)) with
        | some xs => cond (Nat.beq xs.length n && Nat.beq s.esize 1 && Nat.ble n 1000 && Nat.blt 0 n) (some (allU32 xs, .mk (.n s.elem (xs.map Int.toNat)))) none
        | none => none)
      | .sl _ _ => (match partsS E s.elem s.esize 0 (ps.toList.map fun p => (p.1, ρ p.2)) with
        | some l => cond (Nat.beq l.length n && Nat.ble (n * s.esize) 1000 && Nat.blt 0 n) (some (True, .mk (.s s.elem s.esize l))) none
        | none => none)
      | .sll m _ => (match partsL E s.elem m 0 (ps.toList.map fun p => (p.1, ρ p.2)) with
        | some l => cond (Nat.beq l.length n && Nat.beq s.esize 1 && Nat.ble n 1000 && Nat.blt 0 n) (some (True, .mk (.ll s.elem m l))) none
        | none => none)
      | _ => none)
    | none => none)
  | .call { callee := .builtin .append, args, argTypes } => (match args.toList, argTypes.toList with
    | [x, y], [t, u] => cond (Nat.beq t u) (match tnil t E.nils with
      | some s => (match ρ x with
        | .own k => (match nth bx.r k with
          | some r => cond (rwIs s r) (match appRw r (nilTo E t (ρ y)) with
            | some (pre, r') => some (pre, .app k r')
            | none => none) none
          | none => none)
        | .r (.one (.b (.val (.slice none 0 0)))) => (match nilRw s with
          | some r => (match appRw r (nilTo E t (ρ y)) with
            | some (pre, r') => some (pre, .mk r')
            | none => none)
          | none => none)
        | _ => none)
      | none => none) none
    | _, _ => none)
  | .call { callee := .builtin .copy, args, argTypes } => (match args.toList, argTypes.toList with
    | [x, y], [t, u] => (match tnil t E.nils, ρ x, nilTo E u (ρ y) with
      | some s, .own k, .r (.one (.b (.nat l2))) => (match nth bx.r k with
        | some (.n e l) => cond (Nat.beq s.esize 1) (some (l2.length = l.length, .cp k (.n e l2) l2.length)) none
        | _ => none)
      | _, _, _ => none)
    | _, _ => none)
  | .call { callee := .value (.func f), args, argTypes } => (match E.K with
    | _ :: _ => (match args.toList, argTypes.toList with
      | [x, y], [_, _] => (match ρ x, ρ y with
        | .own k, .r (.one (.b (.val (.int .i64 i)))) => (match nth bx.r k with
          | some (.n e l) => (match findK f E.K l i with
            | some (pre, v) => some (pre, .dig k (.n e l) v)
            | none => none)
          | _ => none)
        | _, _ => none)
      | _, _ => none)
    | [] => (match E.D with
    | [] => none
    | _ :: _ => (match args.toList, argTypes.toList with
      | [x, y], [_, u] => (match ρ x, nilTo E u (ρ y) with
        | .part k lo n _, .r (.one (.b (.nat lv))) => (match nth bx.r k with
          | some (.n e l) => (match findD f E.D l lo n lv with
            | some (pre, l', q) => some (pre, .dig k (.n e l') (.int .u32 q))
            | none => none)
          | _ => none)
        | _, _ => none)
      | _, _ => none)))
  | .store t x y => (match tinfo t E.tis, ρ x with
    | some i, .ownAt k sz j => (match nth bx.r k with
      | some (.n e l) => (match ρ y with
        | .r (.one (.b (.val (.int .u32 v)))) => cond (Nat.beq sz 1 && Nat.beq i.size 1) (some (j < l.length ∧ 0 ≤ v ∧ v < 4294967296, .set k (.n e (l.set j v.toNat)))) none
        | _ => none)
      | some (.s e n l) => (match cellsOf (nilTo E t (ρ y)) with
        | some cs => (match toBVs cs with
          | some xs => cond (Nat.beq sz n && Nat.beq i.size n && Nat.beq xs.length n && cs.all CV.cell1 && (nilTo E t (ρ y)).cell1) (some (j < l.length, .set k (.s e n (l.set j xs)))) none
          | none => none)
        | none => none)
      | _ => none)
    | _, _ => none)
  | _ => none

section
variable {P : Program} {E : Env} {S : Nat → Prop} {bs : An} {bx : Bxs} {ρ : Operand → AV} {a : Act} {w : World}

theorem ownsRow_new {e size n cap : Nat} {us : List Value} {cur : Array Value} (hl : us.length = n * size) (hn : n ≤ cap) (hc : cap ≤ 1000000) (hs : cur.size = cap * size) (ht : cur.toList.take (n * size) = us) :
    (w.alloc (.cells cur e)).ownsRow 0 e size (.slice (some ⟨w.heap.size, 0, none⟩) n cap) n us :=
  ⟨hl, .inr ⟨w.heap.size, cap, cur, rfl, Nat.zero_le _, heap_alloc_new w _, hn, by unfold maxLen; omega, hs, ht⟩⟩

theorem made_eq {n : Nat} {z : Array Value} (hz : 0 < z.size) : (madeCells z (n * z.size)).toList = (List.replicate n z.toList).flatten := by
  apply List.ext_getElem?
  intro j
  have hlen : (List.replicate n z.toList).flatten.length = n * z.size := by
    have := flatten_len (l := List.replicate n z.toList) (n := z.size) (fun x hx => by rw [(List.mem_replicate.1 hx).2]; simp)
    simpa using this
  rcases Nat.lt_or_ge j (n * z.size) with hj | hj
  · have hq : j / z.size < n := by rw [Nat.div_lt_iff_lt_mul hz]; exact hj
    have hr : j % z.size < z.size := Nat.mod_lt _ hz
    have e : j = (j / z.size) * z.size + j % z.size := by rw [Nat.mul_comm]; exact (Nat.div_add_mod j z.size).symm
    have hfl := flatten_get (l := List.replicate n z.toList) (n := z.size) (fun x hx => by rw [(List.mem_replicate.1 hx).2]; simp) (i := j / z.size) (x := z.toList) (by simp [hq]) (j := j % z.size) hr
    rw [← e] at hfl
    rw [hfl]
    simp [madeCells, hj, hr]
  · rw [List.getElem?_eq_none (by simpa [madeCells] using hj), List.getElem?_eq_none (by rw [hlen]; exact hj)]

theorem rep_mean {A : Nat → Prop} {xs : List BV} {us : List Value} (h : All2 (BV.mean A w) xs us) : ∀ n : Nat, All2 (BV.mean A w) (List.replicate n xs).flatten (List.replicate n us).flatten
  | 0 => trivial
  | n + 1 => by
    rw [List.replicate_succ, List.replicate_succ, List.flatten_cons, List.flatten_cons]
    exact h.append (rep_mean h n)

/-- The row is new. -/
def IsNew (w w' : World) (v : Value) : Prop := Ext w w' ∧ ∀ b, v.ownBlock = some b → w.heap.size ≤ b

/-- A slice that reads as cells: what append and copy take. -/
theorem nat_src {l : List Nat} {v : Value} (h : Rd S w l v) : ∃ ad c, v = .slice ad l.length c ∧ ((ad = none ∧ l = []) ∨ ∃ q, ad = some q ∧ ∀ j u, (l.map fun (x : Nat) => Value.int .u32 (x : Int))[j]? = some u → w.cell? (q.add j) = some u) := by
  obtain ⟨_, ad, c, hv, _, hr⟩ := h
  refine ⟨ad, c, hv, ?_⟩
  cases l with
  | nil => cases ad with
    | none => exact .inl ⟨rfl, rfl⟩
    | some q => exact .inr ⟨q, rfl, fun j u hj => by simp at hj⟩
  | cons x l =>
    obtain ⟨b, off, rfl, _, _, hc⟩ := hr (by simp)
    refine .inr ⟨_, rfl, fun j u hj => ?_⟩
    rw [add_at]
    have hjl : j < (x :: l).length := by
      have := (List.getElem?_eq_some_iff.1 hj).1
      simpa using this
    rw [hc j hjl]
    rw [List.getElem?_map, List.getElem?_eq_getElem hjl] at hj
    simp only [Option.map_some] at hj
    rw [← hj]
    have e : (x :: l).getD j 0 = (x :: l)[j] := by simp only [List.getD_eq_getElem?_getD, List.getElem?_eq_getElem hjl, Option.getD_some]
    rw [e]

theorem row_src {n : Nat} {l : List (List BV)} {v : Value} (h : Row S w n l v) : ∃ ad c us, v = .slice ad l.length c ∧ us.length = l.length * n ∧ (∀ u, u ∈ us → u.oneCell' = true) ∧ All2 (BV.mean S w) l.flatten us ∧ ((ad = none ∧ l = []) ∨ ∃ q, ad = some q ∧ ∀ j u, us[j]? = some u → w.cell? (q.add j) = some u) := by
  obtain ⟨ad, c, hv, _, hr⟩ := h
  cases l with
  | nil => exact ⟨ad, c, [], hv, by simp, (fun u hu => by cases hu), trivial, by
      cases ad with
      | none => exact .inl ⟨rfl, rfl⟩
      | some q => exact .inr ⟨q, rfl, fun j u hj => by simp at hj⟩⟩
  | cons x l =>
    obtain ⟨b, off, rfl, _, _, hc⟩ := hr (by simp)
    -- gather the cells
    have key : ∀ (m : List (List BV)) (i : Nat), (∀ k y, m[k]? = some y → ∃ us : List Value, us.length = n ∧ (∀ u, u ∈ us → u.oneCell' = true) ∧ All2 (BV.mean S w) y us ∧ ∀ j u, us[j]? = some u → w.cell? ⟨b, off + (i + k) * n + j, none⟩ = some u) →
        ∃ us : List Value, us.length = m.length * n ∧ (∀ u, u ∈ us → u.oneCell' = true) ∧ All2 (BV.mean S w) m.flatten us ∧ ∀ j u, us[j]? = some u → w.cell? ⟨b, off + i * n + j, none⟩ = some u := by
      intro m
      induction m with
      | nil => intro i _; exact ⟨[], by simp, (fun u hu => by cases hu), trivial, fun j u hj => by simp at hj⟩
      | cons y m ih =>
        intro i hm
        obtain ⟨u1, h1, h0, h2, h3⟩ := hm 0 y rfl
        obtain ⟨u2, g1, g0, g2, g3⟩ := ih (i + 1) (fun k z hz => by
          obtain ⟨us, p1, p0, p2, p3⟩ := hm (k + 1) z (by simpa using hz)
          exact ⟨us, p1, p0, p2, fun j u hj => by have := p3 j u hj; rwa [show i + (k + 1) = i + 1 + k by omega] at this⟩)
        refine ⟨u1 ++ u2, by rw [List.length_append, h1, g1, List.length_cons, Nat.add_mul, Nat.one_mul]; omega, fun u hu => (List.mem_append.1 hu).elim (h0 u) (g0 u), by rw [List.flatten_cons]; exact h2.append g2, fun j u hj => ?_⟩
        rcases Nat.lt_or_ge j n with hjn | hjn
        · rw [List.getElem?_append_left (by omega)] at hj
          have := h3 j u hj
          simpa using this
        · rw [List.getElem?_append_right (by omega)] at hj
          have := g3 _ u hj
          rw [← this]
          congr 2
          rw [Nat.add_mul, Nat.one_mul, h1]
          omega
    obtain ⟨us, h1, h0, h2, h3⟩ := key (x :: l) 0 (fun k y hy => by
      obtain ⟨us, p1, p0, p2, p3⟩ := hc k y hy
      exact ⟨us, p1, p0, p2, fun j u hj => by rw [Nat.zero_add]; exact p3 j u hj⟩)
    refine ⟨_, c, us, hv, h1, h0, h2, .inr ⟨_, rfl, fun j u hj => ?_⟩⟩
    rw [add_at]
    have := h3 j u hj
    simpa using this

theorem bv_cell1 {x : BV} {u : Value} (h : x.mean S w u) (h1 : (CV.b x).cell1 = true) : u.oneCell' = true := by
  cases x with
  | val v => have e : u = v := h; subst e; exact h1
  | nat l => obtain ⟨_, _, _, rfl, _⟩ := h; rfl

end
end Go.Gm
