/-
  The frame of all proofs of this seat, part A: what abstract values mean. Plain theorems; no condition.
-/
import Derived.WalkKit
import Derived.Test.YtihmifpdnipdmaaNat
set_option linter.all false
namespace Go.Gm
open Go.RowKit (Below)

/-- The slice value v reads as the limbs l. -/
def Rd (S : Nat → Prop) (w : World) (l : List Nat) (v : Value) : Prop :=
  Lim l ∧ ∃ a c, v = .slice a l.length c ∧ l.length ≤ c ∧ (0 < l.length → ∃ b off, a = some ⟨b, off, none⟩ ∧ S b ∧ b < w.heap.size ∧ ∀ i, i < l.length → w.cell? ⟨b, off + i, none⟩ = some (.int .u32 (l.getD i 0 : Nat)))

/-- What is known of one cell inside a slice. -/
inductive BV where
  | val (v : Value)
  | nat (l : List Nat)

/-- What is known of one cell. -/
inductive CV where
  | b (x : BV)
  | sl (n : Nat) (l : List (List BV))
  | sll (n : Nat) (l : List (List (List BV)))
  | any

abbrev CV.val (v : Value) : CV := .b (.val v)
abbrev CV.nat (l : List Nat) : CV := .b (.nat l)

/-- Position by position. -/
def All2 {α β : Type} (R : α → β → Prop) : List α → List β → Prop
  | [], [] => True
  | x :: xs, y :: ys => R x y ∧ All2 R xs ys
  | _, _ => False

def BV.mean (S : Nat → Prop) (w : World) : BV → Value → Prop
  | .val u, v => v = u
  | .nat l, v => Rd S w l v

/-- A row of elements of n cells each, read from an address on. -/
def Row (S : Nat → Prop) (w : World) (n : Nat) (l : List (List BV)) (v : Value) : Prop :=
  ∃ a c, v = .slice a l.length c ∧ l.length ≤ c ∧ (0 < l.length → ∃ b off, a = some ⟨b, off, none⟩ ∧ S b ∧ b < w.heap.size ∧
    ∀ i x, l[i]? = some x → ∃ us : List Value, us.length = n ∧ (∀ u, u ∈ us → u.oneCell' = true) ∧ All2 (BV.mean S w) x us ∧ ∀ j u, us[j]? = some u → w.cell? ⟨b, off + i * n + j, none⟩ = some u)

def Rows2 (S : Nat → Prop) (w : World) (n : Nat) (l : List (List (List BV))) (v : Value) : Prop :=
  ∃ a c, v = .slice a l.length c ∧ l.length ≤ c ∧ (0 < l.length → ∃ b off, a = some ⟨b, off, none⟩ ∧ S b ∧ b < w.heap.size ∧
    ∀ i x, l[i]? = some x → ∃ u, Row S w n x u ∧ w.cell? ⟨b, off + i, none⟩ = some u)

def CV.mean (S : Nat → Prop) (w : World) : CV → Value → Prop
  | .b x, v => x.mean S w v
  | .sl n l, v => Row S w n l v
  | .sll n l, v => Rows2 S w n l v
  | .any, _ => True

/-- What is known of a value that goes from call to call. -/
inductive RV where
  | one (c : CV)
  | agg (cs : List CV)

def RV.mean (S : Nat → Prop) (w : World) : RV → Value → Prop
  | .one c, v => c.mean S w v
  | .agg cs, v => ∃ vs : List Value, v = .agg vs.toArray ∧ All2 (CV.mean S w) cs vs

/-- What is known of a result. -/
inductive Res where
  | r (x : RV)
  | t (l : List RV)

def Res.mean (S : Nat → Prop) (w : World) : Res → Value → Prop
  | .r x, v => x.mean S w v
  | .t l, v => ∃ vs : List Value, v = .tuple vs.toArray ∧ All2 (RV.mean S w) l vs

/-- w' is w and more. -/
abbrev Ext (w w' : World) : Prop := Below w.heap.size w w'

section
variable {α β : Type} {R S : α → β → Prop}
theorem All2.imp (h : ∀ x y, R x y → S x y) : ∀ {xs : List α} {ys : List β}, All2 R xs ys → All2 S xs ys
  | [], [], _ => trivial
  | _ :: _, _ :: _, ⟨h1, h2⟩ => ⟨h _ _ h1, All2.imp h h2⟩
  | [], _ :: _, h => h.elim
  | _ :: _, [], h => h.elim
theorem All2.length : ∀ {xs : List α} {ys : List β}, All2 R xs ys → xs.length = ys.length
  | [], [], _ => rfl
  | _ :: _, _ :: _, ⟨_, h2⟩ => by simp [All2.length h2]
  | [], _ :: _, h => h.elim
  | _ :: _, [], h => h.elim
theorem All2.append : ∀ {xs xs' : List α} {ys ys' : List β}, All2 R xs ys → All2 R xs' ys' → All2 R (xs ++ xs') (ys ++ ys')
  | [], _, [], _, _, h => h
  | _ :: _, _, _ :: _, _, ⟨h1, h2⟩, h => ⟨h1, All2.append h2 h⟩
  | [], _, _ :: _, _, h, _ => h.elim
  | _ :: _, _, [], _, h, _ => h.elim
theorem All2.get : ∀ {xs : List α} {ys : List β}, All2 R xs ys → ∀ {i : Nat} {x : α}, xs[i]? = some x → ∃ y, ys[i]? = some y ∧ R x y
  | [], [], _, i, x, h => by simp at h
  | _ :: _, _ :: ys, ⟨h1, h2⟩, 0, x, h => by simp at h; subst h; exact ⟨_, rfl, h1⟩
  | _ :: _, _ :: ys, ⟨h1, h2⟩, i + 1, x, h => by simpa using All2.get h2 (by simpa using h)
  | [], _ :: _, h, _, _, _ => h.elim
  | _ :: _, [], h, _, _, _ => h.elim
theorem All2.drop : ∀ (n : Nat) {xs : List α} {ys : List β}, All2 R xs ys → All2 R (xs.drop n) (ys.drop n)
  | 0, _, _, h => h
  | _ + 1, [], [], h => h
  | n + 1, _ :: _, _ :: _, ⟨_, h⟩ => All2.drop n h
  | _ + 1, [], _ :: _, h => h.elim
  | _ + 1, _ :: _, [], h => h.elim
theorem All2.take : ∀ (n : Nat) {xs : List α} {ys : List β}, All2 R xs ys → All2 R (xs.take n) (ys.take n)
  | 0, _, _, _ => by simp [All2]
  | _ + 1, [], [], h => h
  | n + 1, _ :: _, _ :: _, ⟨h1, h⟩ => ⟨h1, All2.take n h⟩
  | _ + 1, [], _ :: _, h => h.elim
  | _ + 1, _ :: _, [], h => h.elim
end

theorem Ext.refl (w : World) : Ext w w := Below.refl _ _
theorem Ext.trans {a b c : World} (h : Ext a b) (k : Ext b c) : Ext a c := Below.trans h (k.mono h.size)
theorem Ext.alloc (w : World) (o : Obj) : Ext w (w.alloc o) := (Below.refl _ _).alloc (Nat.le_refl _) o
theorem Ext.drew (w : World) : Ext w w.drew := (Below.refl _ _).drew
theorem Ext.draw (w : World) : Ext w { w with drawn := w.drawn + 1 } := ⟨rfl, rfl, rfl, Nat.le_refl _, fun _ _ => rfl⟩

/-- w' is w and more, but for some blocks. -/
structure ExtX (X : Nat → Prop) (w w' : World) : Prop where
  os : w'.os = w.os
  tape : w'.tape = w.tape
  output : w'.output = w.output
  size : w.heap.size ≤ w'.heap.size
  block : ∀ b, b < w.heap.size → ¬ X b → w'.heap[b]? = w.heap[b]?
theorem ExtX.refl (X : Nat → Prop) (w : World) : ExtX X w w := ⟨rfl, rfl, rfl, Nat.le_refl _, fun _ _ _ => rfl⟩
theorem ExtX.trans {X : Nat → Prop} {a b c : World} (h : ExtX X a b) (k : Ext b c) : ExtX X a c :=
  ⟨k.os.trans h.os, k.tape.trans h.tape, k.output.trans h.output, Nat.le_trans h.size k.size, fun i hi hx => (k.block i (Nat.lt_of_lt_of_le hi h.size)).trans (h.block i hi hx)⟩
theorem ExtX.toExt {w w' : World} (h : ExtX (fun _ => False) w w') : Ext w w' := ⟨h.os, h.tape, h.output, h.size, fun i hi => h.block i hi id⟩

/-- What the marked blocks hold is as it was. -/
structure Keeps (S S' : Nat → Prop) (w w' : World) : Prop where
  size : w.heap.size ≤ w'.heap.size
  block : ∀ b, S b → b < w.heap.size → S' b ∧ w'.heap[b]? = w.heap[b]?

theorem Keeps.cell {S S' : Nat → Prop} {w w' : World} (k : Keeps S S' w w') {b o : Nat} (hs : S b) (hb : b < w.heap.size) : w'.cell? ⟨b, o, none⟩ = w.cell? ⟨b, o, none⟩ :=
  World.cell?_of_block (w := w) (k.block b hs hb).2

section
variable {w w' : World} {S S' : Nat → Prop}
theorem Rd.keep {l : List Nat} {v : Value} (h : Rd S w l v) (e : Keeps S S' w w') : Rd S' w' l v := by
  obtain ⟨hl, a, c, hv, hc, hr⟩ := h
  refine ⟨hl, a, c, hv, hc, fun h0 => ?_⟩
  obtain ⟨b, off, ha, hs, hb, hcell⟩ := hr h0
  exact ⟨b, off, ha, (e.block b hs hb).1, Nat.lt_of_lt_of_le hb e.size, fun i hi => (e.cell hs hb).trans (hcell i hi)⟩
theorem BV.mean.keep {x : BV} {v : Value} (h : x.mean S w v) (e : Keeps S S' w w') : x.mean S' w' v := by
  cases x with
  | val u => exact h
  | nat l => exact Rd.keep h e
theorem Row.keep {n : Nat} {l : List (List BV)} {v : Value} (h : Row S w n l v) (e : Keeps S S' w w') : Row S' w' n l v := by
  obtain ⟨a, c, hv, hc, hr⟩ := h
  refine ⟨a, c, hv, hc, fun h0 => ?_⟩
  obtain ⟨b, off, ha, hs, hb, hcell⟩ := hr h0
  refine ⟨b, off, ha, (e.block b hs hb).1, Nat.lt_of_lt_of_le hb e.size, fun i x hx => ?_⟩
  obtain ⟨us, hn, h1, hm, hu⟩ := hcell i x hx
  exact ⟨us, hn, h1, hm.imp fun _ _ h => h.keep e, fun j u hj => (e.cell hs hb).trans (hu j u hj)⟩
theorem Rows2.keep {n : Nat} {l : List (List (List BV))} {v : Value} (h : Rows2 S w n l v) (e : Keeps S S' w w') : Rows2 S' w' n l v := by
  obtain ⟨a, c, hv, hc, hr⟩ := h
  refine ⟨a, c, hv, hc, fun h0 => ?_⟩
  obtain ⟨b, off, ha, hs, hb, hcell⟩ := hr h0
  refine ⟨b, off, ha, (e.block b hs hb).1, Nat.lt_of_lt_of_le hb e.size, fun i x hx => ?_⟩
  obtain ⟨u, hm, hu⟩ := hcell i x hx
  exact ⟨u, hm.keep e, (e.cell hs hb).trans hu⟩
theorem CV.mean.keep {x : CV} {v : Value} (h : x.mean S w v) (e : Keeps S S' w w') : x.mean S' w' v := by
  cases x with
  | b x => exact BV.mean.keep h e
  | sl n l => exact Row.keep h e
  | sll n l => exact Rows2.keep h e
  | any => trivial
theorem CV.all_keep {xs : List CV} {vs : List Value} (h : All2 (CV.mean S w) xs vs) (e : Keeps S S' w w') : All2 (CV.mean S' w') xs vs := h.imp fun _ _ h => h.keep e
theorem RV.mean.keep {x : RV} {v : Value} (h : x.mean S w v) (e : Keeps S S' w w') : x.mean S' w' v := by
  cases x with
  | one c => exact CV.mean.keep h e
  | agg cs => obtain ⟨vs, hv, hm⟩ := h; exact ⟨vs, hv, CV.all_keep hm e⟩
theorem RV.all_keep {xs : List RV} {vs : List Value} (h : All2 (RV.mean S w) xs vs) (e : Keeps S S' w w') : All2 (RV.mean S' w') xs vs := h.imp fun _ _ h => h.keep e
theorem Res.mean.keep {x : Res} {v : Value} (h : x.mean S w v) (e : Keeps S S' w w') : x.mean S' w' v := by
  cases x with
  | r x => exact RV.mean.keep h e
  | t l => obtain ⟨vs, hv, hm⟩ := h; exact ⟨vs, hv, RV.all_keep hm e⟩
theorem Ext.keeps (e : Ext w w') (S : Nat → Prop) : Keeps S S w w' := ⟨e.size, fun b hs hb => ⟨hs, e.block b hb⟩⟩
theorem Ext.keepsTo (e : Ext w w') (h : ∀ b, S b → b < w.heap.size → S' b) : Keeps S S' w w' := ⟨e.size, fun b hs hb => ⟨h b hs hb, e.block b hb⟩⟩
theorem Keeps.to (h : ∀ b, S b → b < w.heap.size → S' b) : Keeps S S' w w := ⟨Nat.le_refl _, fun b hs hb => ⟨h b hs hb, rfl⟩⟩
end

/-- A nil slice reads as no limbs, and as a row of no elements. -/
theorem Rd.nil_ (S : Nat → Prop) (w : World) : Rd S w [] (.slice none 0 0) := ⟨Lim.nil, none, 0, rfl, Nat.le_refl _, fun h => absurd h (by simp)⟩
theorem Row.nil_ (S : Nat → Prop) (w : World) (n : Nat) : Row S w n [] (.slice none 0 0) := ⟨none, 0, rfl, Nat.le_refl _, fun h => absurd h (by simp)⟩
theorem Rows2.nil_ (S : Nat → Prop) (w : World) (n : Nat) : Rows2 S w n [] (.slice none 0 0) := ⟨none, 0, rfl, Nat.le_refl _, fun h => absurd h (by simp)⟩

/-- Blocks that were allowed, or that are new. -/
def Or' (S : Nat → Prop) (w : World) (b : Nat) : Prop := S b ∨ w.heap.size ≤ b

/-- What a call gives. -/
def Get (S : Nat → Prop) (w : World) (x : Res) (e : Ending) (w' : World) : Prop := ∃ v, e = .returned v ∧ x.mean (Or' S w) w' v ∧ Ext w w'

/-- A contract: arguments that are known so give a result that is known so. -/
def Valid (P : Program) (f : FuncId) (spec : List RV → Option (Prop × Res)) : Prop :=
  ∀ xs pre res, spec xs = some (pre, res) → pre → ∀ (S : Nat → Prop) (w : World) (vs : List Value), All2 (RV.mean S w) xs vs → Calls P f vs.toArray w (Get S w res)

end Go.Gm
