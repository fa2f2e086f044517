/-
  CoreX: several texts in one file. Plain theorems; no condition.
-/
import Derived.Test.YtihmifpdnipdmaaCoreD
import Derived.Maps.AppendAt
/-
  The frame of all proofs of this seat, part E: one operation, whichever. Plain theorems; no condition.
-/
set_option linter.all false
namespace Go.Gm
open Go.RowKit (Below)

section
variable {P : Program} {E : Env} {S : Nat → Prop} {bs : An} {bx : Bxs} {ρ : Operand → AV} {a : Act} {w : World}

theorem binOut_good (hE : E.Ok P) (hρ : ∀ x, (ρ x).mean S bs w (a.eval x)) {op : BinOp} {t u : TypeId} {x y : Operand} {dst : Option Tmp} {type : TypeId} {pos : String} {after : Array Edge} {guard : Option (Nat × Bool)} :
    (binOut E op t (ρ x) (ρ y)).Good P ⟨dst, .binOp op t x y u, type, pos, after, guard⟩ a w S bs := by
  unfold binOut
  split
  · rename_i cs ds hx hy
    split
    · rename_i b hb
      exact do_bin_agg hE hρ hx hy hb (.inl ⟨rfl, rfl⟩)
    · rename_i b hb
      exact do_bin_agg hE hρ hx hy hb (.inr ⟨rfl, rfl⟩)
    · trivial
  · rename_i k m k' n hx hy
    split
    · exact fun hn => do_shift hρ hx hy hn (.inl ⟨rfl, rfl⟩)
    · exact fun hn => do_shift hρ hx hy hn (.inr ⟨rfl, rfl⟩)
    · by_cases hk : k = k'
      · subst hk
        simp only [decide_true, cond_true]
        exact do_bin_int hρ hx hy
      · simp only [hk, decide_false, cond_false]
        trivial
  · rename_i m n hx hy
    split
    · rename_i hb
      exact do_bin_bool hE hρ hx hy (by simpa using hb) (.inl ⟨rfl, rfl⟩)
    · rename_i hb
      exact do_bin_bool hE hρ hx hy (by simpa using hb) (.inr ⟨rfl, rfl⟩)
    · trivial
  · trivial

theorem opOut_good (hE : E.Ok P) (hbx : Boxes S w bs bx) (hρ : ∀ x, (ρ x).mean S bs w (a.eval x)) (o : Oper) : (opOut E bx ρ o).Good P o a w S bs := by
  obtain ⟨dst, op, type, pos, after, guard⟩ := o
  unfold opOut
  simp only
  split
  · exact do_move hρ _
  · exact do_assign hρ _
  · split
    · rename_i hc; exact do_pick hρ _ _ _ true hc
    · rename_i hc; exact do_pick hρ _ _ _ false hc
    · trivial
  · split
    · rename_i hi
      split
      · rename_i ha hg hf
        exact do_build hE hρ hi ha hg hf
      · trivial
    · trivial
  · split
    · rename_i hi
      split
      · rename_i hx
        split
        · rename_i hk
          split
          · rename_i hv hl
            exact do_load_ptr hE hbx hρ hi hx hk hv hl
          · trivial
        · trivial
      · rename_i hx
        split
        · rename_i hv hl
          exact do_load_elem hE hρ hi hx hv hl
        · trivial
      · rename_i k sz j hx
        split
        · rename_i hr hg
          exact good_cond fun hn hp => do_load_ownN hE hbx hρ hi hg hx hr hn hp
        · rename_i hr hg
          exact good_cond fun hn hp => do_load_ownS hE hbx hρ hi hg hx hr hn hp
        · rename_i hr hg
          exact good_cond fun hn hp => do_load_ownL hE hbx hρ hi hg hx hr hn hp
        · trivial
      · trivial
    · trivial
  · exact binOut_good hE hρ
  · exact do_un hρ
  · split
    · rename_i hs hd hx
      exact do_convert hE hρ hs hd hx
    · trivial
  · split
    · rename_i hi
      split
      · rename_i hx hf ha hg
        exact do_fieldAddr hE hρ hi hf ha hg (.inl ⟨_, _, hx, rfl⟩)
      · rename_i hx hf ha hg
        exact do_fieldAddr hE hρ hi hf ha hg (.inr ⟨_, hx, rfl⟩)
      · trivial
    · trivial
  · split
    · rename_i hx
      split
      · rename_i hy
        exact do_extract hρ hx hy
      · trivial
    · trivial
  · split
    · rename_i hxs hn
      split
      · rename_i hf
        exact fun hp => do_call hE hρ hxs hn hf hp
      · rename_i hf
        exact fun hp => do_call hE hρ hxs hn hf hp
      · trivial
    · trivial
  · split
    · rename_i hcv
      split
      · rename_i hxs hn
        split
        · rename_i hf
          exact fun hp => do_callV hE hρ hcv hxs hn hf hp
        · rename_i hf
          exact fun hp => do_callV hE hρ hcv hxs hn hf hp
        · trivial
      · trivial
    · trivial
  · split
    · rename_i s hs
      split
      · split
        · rename_i hl
          exact good_cond fun hc hp => (do_buildN hE hρ hs hl hc hp).1
        · trivial
      · split
        · rename_i hl
          exact good_cond fun hc => (do_buildS hE hρ hs hl hc).1
        · trivial
      · split
        · rename_i hl
          exact good_cond fun hc => (do_buildL hE hρ hs hl hc).1
        · trivial
      · trivial
    · trivial
  · rename_i args argTypes
    split
    · rename_i x t hx ht
      have e1 : args = #[x] := by apply Array.ext'; simpa using hx
      have e2 : argTypes = #[t] := by apply Array.ext'; simpa using ht
      subst e1
      subst e2
      split
      · rename_i hl hs
        exact do_len hE hρ hs (.inl ⟨_, hl, rfl⟩)
      · rename_i hl hs
        exact do_len hE hρ hs (.inr (.inl ⟨_, _, hl, rfl⟩))
      · rename_i hl hs
        exact do_len hE hρ hs (.inr (.inr ⟨_, _, hl, rfl⟩))
      · rename_i hl hs
        exact do_len_part hE hρ hs hl
      · rename_i hl hs
        split
        · rename_i hr
          exact do_len_own hE hbx hρ hs hl hr (.inl ⟨_, _, rfl, rfl⟩)
        · rename_i hr
          exact do_len_own hE hbx hρ hs hl hr (.inr (.inl ⟨_, _, _, rfl, rfl⟩))
        · rename_i hr
          exact do_len_own hE hbx hρ hs hl hr (.inr (.inr ⟨_, _, _, rfl, rfl⟩))
        · trivial
      · trivial
    · trivial
  · split
    · rename_i hi
      split
      · rename_i s hs
        split
        · rename_i hx
          cases hn : Nat.beq s.esize 1
          · trivial
          · exact fun hp => do_index_nat hE hρ hs hi hp hx hn
        · rename_i n l hx
          cases hn : Nat.beq s.esize n
          · trivial
          · exact fun hp => do_index_sl hE hρ hs hi hp hx hn
        · rename_i n l hx
          cases hn : Nat.beq s.esize 1
          · trivial
          · exact fun hp => do_index_sll hE hρ hs hi hp hx hn
        · rename_i k hx
          split
          · rename_i hr
            cases hn : Nat.beq s.esize 1
            · trivial
            · exact fun hp => do_index_own hE hbx hρ hs hi hx hr (.inl ⟨_, _, rfl, rfl⟩) hp (Nat.eq_of_beq_eq_true hn)
          · rename_i n l hr
            cases hn : Nat.beq s.esize n
            · trivial
            · exact fun hp => do_index_own hE hbx hρ hs hi hx hr (.inr (.inl ⟨_, _, _, rfl, rfl⟩)) hp (Nat.eq_of_beq_eq_true hn)
          · rename_i hr
            cases hn : Nat.beq s.esize 1
            · trivial
            · exact fun hp => do_index_own hE hbx hρ hs hi hx hr (.inr (.inr ⟨_, _, _, rfl, rfl⟩)) hp (Nat.eq_of_beq_eq_true hn)
          · trivial
        · rename_i k lo n o hx
          split
          · rename_i hr
            cases hn : Nat.beq s.esize 1
            · trivial
            · exact fun hp => do_index_part hE hρ hs hi hx hp (Nat.eq_of_beq_eq_true hn)
          · trivial
        · trivial
      · split
        · rename_i hti hx
          split
          · rename_i hf ha
            exact fun hp => do_index_arr hE hρ hti hi hp hx hf ha
          · trivial
        · trivial
    · trivial
  · split
    · rename_i s l bl bh hs hx hl hh
      exact good_cond fun hn hp => do_cutN hE hρ hs hl hh hx hn hp
    · rename_i s n l bl bh hs hx hl hh
      exact good_cond fun hn hp => do_cutS hE hρ hs hl hh hx hn hp
    · rename_i s k bl bh hs hx hl hh
      split
      · rename_i hr
        exact good_cond fun hn hp => do_cut_own hE hbx hρ hs hl hh hx hr hn hp
      · trivial
    · trivial
  · rename_i args argTypes
    split
    · rename_i x y hx
      have e1 : args = #[x, y] := by apply Array.ext'; simpa using hx
      subst e1
      split
      · rename_i h1 h2
        exact do_max hρ h1 h2
      · trivial
    · trivial
  · rename_i args argTypes
    split
    · rename_i x y hx
      have e1 : args = #[x, y] := by apply Array.ext'; simpa using hx
      subst e1
      split
      · rename_i h1 h2
        exact do_min hρ h1 h2
      · trivial
    · trivial
  · split
    · rename_i hx hf
      exact do_field hE hρ hx hf
    · trivial
  · split
    · rename_i h1 h2 ht
      exact fun hj => do_strIndex hE hρ h1 h2 (by simpa using ht) hj
    · trivial
  · trivial

/-- A new box. -/
theorem allocOut_ok (hE : E.Ok P) (hρ : ∀ x, (ρ x).mean S bs w (a.eval x)) {o : Oper} {t : TypeId} {cs : List CV} (h : allocOut E ρ o.op = some (t, cs)) :
    ∃ us : List Value, All2 (CV.mean S w) cs us ∧ ∀ (K : Act → World → Prop) (Q : Exit → Act → World → Prop),
      K (a.put o.dst (.pointer (some ⟨w.heap.size, 0, none⟩))) (w.alloc (.cells us.toArray t)) → o.wp P a w K Q := by
  obtain ⟨dst, op, type, pos, after, guard⟩ := o
  have fin : ∀ us : List Value, (execOp a.eval ⟨dst, op, type, pos, after, guard⟩).run P w = .ok (.value (.pointer (some ⟨w.heap.size, 0, none⟩))) (w.alloc (.cells us.toArray t)) → All2 (CV.mean S w) cs us →
      ∃ us : List Value, All2 (CV.mean S w) cs us ∧ ∀ (K : Act → World → Prop) (Q : Exit → Act → World → Prop),
      K (a.put dst (.pointer (some ⟨w.heap.size, 0, none⟩))) (w.alloc (.cells us.toArray t)) → Oper.wp P ⟨dst, op, type, pos, after, guard⟩ a w K Q := by
    intro us hr hm
    refine ⟨us, hm, fun K Q hK => ?_⟩
    unfold Oper.wp
    rw [hr]
    exact hK
  simp only at h
  unfold allocOut at h
  split at h
  · split at h
    · rename_i i hi
      simp only [Option.some.injEq, Prod.mk.injEq] at h
      obtain ⟨rfl, rfl⟩ := h
      obtain ⟨ti, z, hti, hsz, hz, hzl, hzm⟩ := (hE.tis _ _ (tinfo_mem hi)).info
      refine fin z.cells.toList ?_ (hzm S w)
      simp [execOp, Instr.alloc, zeroValue, typeInfo, hti, hz, newVar, newRow]
    · cases h
  · rename_i t' x
    split at h
    · rename_i cs' hc h1
      simp only [Option.some.injEq, Prod.mk.injEq] at h
      obtain ⟨rfl, rfl⟩ := h
      refine fin (a.eval x).cells.toList ?_ (cells_mean (hρ x) hc h1)
      simp [execOp, Instr.box, newVar, newRow]
    · cases h
  · cases h

/-- A store into a box. -/
theorem storeOut_ok (hE : E.Ok P) (hbx : Boxes S w bs bx) (hρ : ∀ x, (ρ x).mean S bs w (a.eval x)) {o : Oper} {k off : Nat} {vs : List CV} (h : storeOut E bx ρ o.op = some (k, off, vs)) :
    ∃ (t : TypeId) (cs : List CV) (b : Nat) (us ws : List Value), nth bx.b k = some (t, cs) ∧ bs.b[k]? = some b ∧ w.heap[b]? = some (.cells us.toArray t (0, 0)) ∧ All2 (CV.mean S w) cs us ∧ All2 (CV.mean S w) vs ws ∧ off + ws.length ≤ us.length ∧
      ∀ (K : Act → World → Prop) (Q : Exit → Act → World → Prop), K (a.put o.dst undef) (w.setRow b (us.take off ++ ws ++ us.drop (off + ws.length)).toArray) → o.wp P a w K Q := by
  obtain ⟨dst, op, type, pos, after, guard⟩ := o
  simp only at h
  unfold storeOut at h
  split at h
  · rename_i t x y
    split at h
    · rename_i i k' off' vs' hi hx hy
      split at h
      · rename_i t' cs hk
        cases hc : (Nat.beq vs'.length i.size && Nat.ble (off' + vs'.length) cs.length && vs'.all CV.cell1 && (nilTo E t (ρ y)).cell1) with
        | false => rw [hc] at h; cases h
        | true =>
          rw [hc] at h
          simp only [cond_true, Option.some.injEq, Prod.mk.injEq] at h
          obtain ⟨rfl, rfl, rfl⟩ := h
          simp only [Bool.and_eq_true] at hc
          obtain ⟨⟨⟨h1, h2⟩, h3⟩, h4⟩ := hc
          have e1 := Nat.eq_of_beq_eq_true h1
          have e2 := Nat.le_of_ble_eq_true h2
          obtain ⟨b, us, hb, hh, hm⟩ := box_at hbx hk
          have hp := hρ x
          rw [hx] at hp
          obtain ⟨b', hb', he⟩ := hp
          rw [hb] at hb'
          injection hb' with hb'
          subst hb'
          have hv := cells_mean (nilTo_mean hE (t := t) (hρ y)) hy h4
          have l1 := hv.length
          have l2 := hm.length
          obtain ⟨ti, z, hti, hsz, _⟩ := (hE.tis _ _ (tinfo_mem hi)).info
          refine ⟨t', cs, b, us, (a.eval y).cells.toList, hk, hb, hh, hm, hv, by omega, fun K Q hK => ?_⟩
          have hst := run_storeCells_at (P := P) b off' t' (a.eval y).cells.toList 0 us.toArray w hh (by simp at l1 ⊢; omega) (all_cell1 hv h3)
          have hsv : (storeVar t ⟨b, off', none⟩ (a.eval y)).run P w = .ok () (w.setRow b (us.take off' ++ (a.eval y).cells.toList ++ us.drop (off' + (a.eval y).cells.toList.length)).toArray) := by
            have hsize : (a.eval y).cells.size = ti.size := by simp at l1; omega
            simp only [storeVar, sizeOf, typeInfo, Sem.run_bind, run_program, Result.andThen_ok, hti, Sem.run_pure, hsize, ne_eq, not_true, if_false, hst]
            simp
          unfold Oper.wp
          have hrun : (execOp a.eval ⟨dst, .store t x y, type, pos, after, guard⟩).run P w = .ok .skip (w.setRow b (us.take off' ++ (a.eval y).cells.toList ++ us.drop (off' + (a.eval y).cells.toList.length)).toArray) := by
            simp only [execOp, Instr.storeAt, he, Instr.sureAddr, Sem.run_bind, Sem.run_pure, Result.andThen_ok, hsv]
          rw [hrun]
          exact hK
      · cases h
    · cases h
  · cases h

end
end Go.Gm

/-
  The frame of all proofs of this seat, part Eb: operations on rows of the call's own. Plain theorems; no condition.
-/
namespace Go.Gm
open Go.RowKit (Below)

/-- What an operation does to the rows. -/
inductive RowAct where
  | mk (r : Rw)
  | set (k : Nat) (r : Rw)
  | app (k : Nat) (r : Rw)
  | cp (k : Nat) (r : Rw) (n : Nat)
  | dig (k : Nat) (r : Rw) (v : Value)

/-- A row made longer by what a slice holds. -/
def appRw : Rw → AV → Option (Prop × Rw)
  | .n e l, .r (.one (.b (.nat l2))) => some (l.length + l2.length ≤ 1000000, .n e (l ++ l2))
  | .s e n l, .r (.one (.sl m l2)) => cond (Nat.beq m n) (some (l.length + l2.length ≤ 1000000, .s e n (l ++ l2))) none
  | .ll e n l, .r (.one (.sll m l2)) => cond (Nat.beq m n) (some (l.length + l2.length ≤ 1000000, .ll e n (l ++ l2))) none
  | _, _ => none

/-- nil as a row. -/
def nilRw (s : SI) : Option Rw := match s.zero with
  | .b (.nat _) => cond (Nat.beq s.esize 1) (some (.n s.elem [])) none
  | .sl _ _ => some (.s s.elem s.esize [])
  | .sll n _ => cond (Nat.beq s.esize 1) (some (.ll s.elem n [])) none
  | _ => none

/-- The row is of the slice's type. -/
def rwIs (s : SI) : Rw → Bool
  | .n e _ => Nat.beq e s.elem && Nat.beq s.esize 1
  | .s e n _ => Nat.beq e s.elem && Nat.beq n s.esize
  | .ll e _ _ => Nat.beq e s.elem && Nat.beq s.esize 1
  | .dead => false

def rowOut (E : Env) (bx : Bxs) (ρ : Operand → AV) : Op → Option (Prop × RowAct)
  | .makeSlice t x y => (match tnil t E.nils, ρ x, ρ y with
    | some s, .r (.one (.b (.val (.int .i64 a)))), .r (.one (.b (.val (.int .i64 c)))) => (match s.zero with
      | .b (.nat _) => cond (Nat.beq s.esize 1) (some (0 ≤ a ∧ a ≤ c ∧ c ≤ 1000000, .mk (.n s.elem (List.replicate a.toNat 0)))) none
      | .sl _ _ => cond (Nat.beq s.ezero.length s.esize) (some (0 ≤ a ∧ a ≤ c ∧ c ≤ 1000000, .mk (.s s.elem s.esize (List.replicate a.toNat s.ezero)))) none
      | _ => none)
    | _, _, _ => none)
  | .buildSlice t n ps => (match tnil t E.nils with
    | some s => (match s.zero with
      | .b (.nat _) => (match partsN 0 (ps.toList.map fun p => (p.1, ρ p.2)) with
        | some xs => cond (Nat.beq xs.length n && Nat.beq s.esize 1 && Nat.ble n 1000 && Nat.blt 0 n) (some (allU32 xs, .mk (.n s.elem (xs.map Int.toNat)))) none
        | none => none)
      | .sl _ _ => (match partsS E s.elem s.esize 0 (ps.toList.map fun p => (p.1, ρ p.2)) with
        | some l => cond (Nat.beq l.length n && Nat.ble (n * s.esize) 1000 && Nat.blt 0 n) (some (True, .mk (.s s.elem s.esize l))) none
        | none => none)
      | .sll m _ => (match partsL E s.elem m 0 (ps.toList.map fun p => (p.1, ρ p.2)) with
        | some l => cond (Nat.beq l.length n && Nat.beq s.esize 1 && Nat.ble n 1000 && Nat.blt 0 n) (some (True, .mk (.ll s.elem m l))) none
        | none => none)
      | _ => none)
    | none => none)
  | .call { callee := .builtin .append, args, argTypes } => (match args.toList, argTypes.toList with
    | [x, y], [t, u] => cond (Nat.beq t u) (match tnil t E.nils with
      | some s => (match ρ x with
        | .own k => (match nth bx.r k with
          | some r => cond (rwIs s r) (match appRw r (nilTo E t (ρ y)) with
            | some (pre, r') => some (pre, .app k r')
            | none => none) none
          | none => none)
        | .r (.one (.b (.val (.slice none 0 0)))) => (match nilRw s with
          | some r => (match appRw r (nilTo E t (ρ y)) with
            | some (pre, r') => some (pre, .mk r')
            | none => none)
          | none => none)
        | _ => none)
      | none => none) none
    | _, _ => none)
  | .call { callee := .builtin .copy, args, argTypes } => (match args.toList, argTypes.toList with
    | [x, y], [t, u] => (match tnil t E.nils, ρ x, nilTo E u (ρ y) with
      | some s, .own k, .r (.one (.b (.nat l2))) => (match nth bx.r k with
        | some (.n e l) => cond (Nat.beq s.esize 1) (some (l2.length = l.length, .cp k (.n e l2) l2.length)) none
        | _ => none)
      | _, _, _ => none)
    | _, _ => none)
  | .call { callee := .value (.func f), args, argTypes } => (match E.K with
    | _ :: _ => (match args.toList, argTypes.toList with
      | [x, y], [_, _] => (match ρ x, ρ y with
        | .own k, .r (.one (.b (.val (.int .i64 i)))) => (match nth bx.r k with
          | some (.n e l) => (match findK f E.K l i with
            | some (pre, v) => some (pre, .dig k (.n e l) v)
            | none => none)
          | _ => none)
        | _, _ => none)
      | _, _ => none)
    | [] => (match E.D with
    | [] => none
    | _ :: _ => (match args.toList, argTypes.toList with
      | [x, y], [_, u] => (match ρ x, nilTo E u (ρ y) with
        | .part k lo n _, .r (.one (.b (.nat lv))) => (match nth bx.r k with
          | some (.n e l) => (match findD f E.D l lo n lv with
            | some (pre, l', q) => some (pre, .dig k (.n e l') (.int .u32 q))
            | none => none)
          | _ => none)
        | _, _ => none)
      | _, _ => none)))
  | .store t x y => (match tinfo t E.tis, ρ x with
    | some i, .ownAt k sz j => (match nth bx.r k with
      | some (.n e l) => (match ρ y with
        | .r (.one (.b (.val (.int .u32 v)))) => cond (Nat.beq sz 1 && Nat.beq i.size 1) (some (j < l.length ∧ 0 ≤ v ∧ v < 4294967296, .set k (.n e (l.set j v.toNat)))) none
        | _ => none)
      | some (.s e n l) => (match cellsOf (nilTo E t (ρ y)) with
        | some cs => (match toBVs cs with
          | some xs => cond (Nat.beq sz n && Nat.beq i.size n && Nat.beq xs.length n && cs.all CV.cell1 && (nilTo E t (ρ y)).cell1) (some (j < l.length, .set k (.s e n (l.set j xs)))) none
          | none => none)
        | none => none)
      | _ => none)
    | _, _ => none)
  | _ => none

section
variable {P : Program} {E : Env} {S : Nat → Prop} {bs : An} {bx : Bxs} {ρ : Operand → AV} {a : Act} {w : World}

theorem ownsRow_new {e size n cap : Nat} {us : List Value} {cur : Array Value} (hl : us.length = n * size) (hn : n ≤ cap) (hc : cap ≤ 1000000) (hs : cur.size = cap * size) (ht : cur.toList.take (n * size) = us) :
    (w.alloc (.cells cur e)).ownsRow 0 e size (.slice (some ⟨w.heap.size, 0, none⟩) n cap) n us :=
  ⟨hl, .inr ⟨w.heap.size, cap, cur, rfl, Nat.zero_le _, heap_alloc_new w _, hn, by unfold maxLen; omega, hs, ht⟩⟩

theorem made_eq {n : Nat} {z : Array Value} (hz : 0 < z.size) : (madeCells z (n * z.size)).toList = (List.replicate n z.toList).flatten := by
  apply List.ext_getElem?
  intro j
  have hlen : (List.replicate n z.toList).flatten.length = n * z.size := by
    have := flatten_len (l := List.replicate n z.toList) (n := z.size) (fun x hx => by rw [(List.mem_replicate.1 hx).2]; simp)
    simpa using this
  rcases Nat.lt_or_ge j (n * z.size) with hj | hj
  · have hq : j / z.size < n := by rw [Nat.div_lt_iff_lt_mul hz]; exact hj
    have hr : j % z.size < z.size := Nat.mod_lt _ hz
    have e : j = (j / z.size) * z.size + j % z.size := by rw [Nat.mul_comm]; exact (Nat.div_add_mod j z.size).symm
    have hfl := flatten_get (l := List.replicate n z.toList) (n := z.size) (fun x hx => by rw [(List.mem_replicate.1 hx).2]; simp) (i := j / z.size) (x := z.toList) (by simp [hq]) (j := j % z.size) hr
    rw [← e] at hfl
    rw [hfl]
    simp [madeCells, hj, hr]
  · rw [List.getElem?_eq_none (by simpa [madeCells] using hj), List.getElem?_eq_none (by rw [hlen]; exact hj)]

theorem rep_mean {A : Nat → Prop} {xs : List BV} {us : List Value} (h : All2 (BV.mean A w) xs us) : ∀ n : Nat, All2 (BV.mean A w) (List.replicate n xs).flatten (List.replicate n us).flatten
  | 0 => trivial
  | n + 1 => by
    rw [List.replicate_succ, List.replicate_succ, List.flatten_cons, List.flatten_cons]
    exact h.append (rep_mean h n)

/-- The row is new. -/
def IsNew (w w' : World) (v : Value) : Prop := Ext w w' ∧ ∀ b, v.ownBlock = some b → w.heap.size ≤ b

/-- A slice that reads as cells: what append and copy take. -/
theorem nat_src {l : List Nat} {v : Value} (h : Rd S w l v) : ∃ ad c, v = .slice ad l.length c ∧ ((ad = none ∧ l = []) ∨ ∃ q, ad = some q ∧ ∀ j u, (l.map fun (x : Nat) => Value.int .u32 (x : Int))[j]? = some u → w.cell? (q.add j) = some u) := by
  obtain ⟨_, ad, c, hv, _, hr⟩ := h
  refine ⟨ad, c, hv, ?_⟩
  cases l with
  | nil => cases ad with
    | none => exact .inl ⟨rfl, rfl⟩
    | some q => exact .inr ⟨q, rfl, fun j u hj => by simp at hj⟩
  | cons x l =>
    obtain ⟨b, off, rfl, _, _, hc⟩ := hr (by simp)
    refine .inr ⟨_, rfl, fun j u hj => ?_⟩
    rw [add_at]
    have hjl : j < (x :: l).length := by
      have := (List.getElem?_eq_some_iff.1 hj).1
      simpa using this
    rw [hc j hjl]
    rw [List.getElem?_map, List.getElem?_eq_getElem hjl] at hj
    simp only [Option.map_some] at hj
    rw [← hj]
    have e : (x :: l).getD j 0 = (x :: l)[j] := by simp only [List.getD_eq_getElem?_getD, List.getElem?_eq_getElem hjl, Option.getD_some]
    rw [e]

theorem row_src {n : Nat} {l : List (List BV)} {v : Value} (h : Row S w n l v) : ∃ ad c us, v = .slice ad l.length c ∧ us.length = l.length * n ∧ (∀ u, u ∈ us → u.oneCell' = true) ∧ All2 (BV.mean S w) l.flatten us ∧ ((ad = none ∧ l = []) ∨ ∃ q, ad = some q ∧ ∀ j u, us[j]? = some u → w.cell? (q.add j) = some u) := by
  obtain ⟨ad, c, hv, _, hr⟩ := h
  cases l with
  | nil => exact ⟨ad, c, [], hv, by simp, (fun u hu => by cases hu), trivial, by
      cases ad with
      | none => exact .inl ⟨rfl, rfl⟩
      | some q => exact .inr ⟨q, rfl, fun j u hj => by simp at hj⟩⟩
  | cons x l =>
    obtain ⟨b, off, rfl, _, _, hc⟩ := hr (by simp)
    -- gather the cells
    have key : ∀ (m : List (List BV)) (i : Nat), (∀ k y, m[k]? = some y → ∃ us : List Value, us.length = n ∧ (∀ u, u ∈ us → u.oneCell' = true) ∧ All2 (BV.mean S w) y us ∧ ∀ j u, us[j]? = some u → w.cell? ⟨b, off + (i + k) * n + j, none⟩ = some u) →
        ∃ us : List Value, us.length = m.length * n ∧ (∀ u, u ∈ us → u.oneCell' = true) ∧ All2 (BV.mean S w) m.flatten us ∧ ∀ j u, us[j]? = some u → w.cell? ⟨b, off + i * n + j, none⟩ = some u := by
      intro m
      induction m with
      | nil => intro i _; exact ⟨[], by simp, (fun u hu => by cases hu), trivial, fun j u hj => by simp at hj⟩
      | cons y m ih =>
        intro i hm
        obtain ⟨u1, h1, h0, h2, h3⟩ := hm 0 y rfl
        obtain ⟨u2, g1, g0, g2, g3⟩ := ih (i + 1) (fun k z hz => by
          obtain ⟨us, p1, p0, p2, p3⟩ := hm (k + 1) z (by simpa using hz)
          exact ⟨us, p1, p0, p2, fun j u hj => by have := p3 j u hj; rwa [show i + (k + 1) = i + 1 + k by omega] at this⟩)
        refine ⟨u1 ++ u2, by rw [List.length_append, h1, g1, List.length_cons, Nat.add_mul, Nat.one_mul]; omega, fun u hu => (List.mem_append.1 hu).elim (h0 u) (g0 u), by rw [List.flatten_cons]; exact h2.append g2, fun j u hj => ?_⟩
        rcases Nat.lt_or_ge j n with hjn | hjn
        · rw [List.getElem?_append_left (by omega)] at hj
          have := h3 j u hj
          simpa using this
        · rw [List.getElem?_append_right (by omega)] at hj
          have := g3 _ u hj
          rw [← this]
          congr 2
          rw [Nat.add_mul, Nat.one_mul, h1]
          omega
    obtain ⟨us, h1, h0, h2, h3⟩ := key (x :: l) 0 (fun k y hy => by
      obtain ⟨us, p1, p0, p2, p3⟩ := hc k y hy
      exact ⟨us, p1, p0, p2, fun j u hj => by rw [Nat.zero_add]; exact p3 j u hj⟩)
    refine ⟨_, c, us, hv, h1, h0, h2, .inr ⟨_, rfl, fun j u hj => ?_⟩⟩
    rw [add_at]
    have := h3 j u hj
    simpa using this

theorem bv_cell1 {x : BV} {u : Value} (h : x.mean S w u) (h1 : (CV.b x).cell1 = true) : u.oneCell' = true := by
  cases x with
  | val v => have e : u = v := h; subst e; exact h1
  | nat l => obtain ⟨_, _, _, rfl, _⟩ := h; rfl

end
end Go.Gm

/-
  The frame of all proofs of this seat, part Ec: that what part Eb says of rows is so. Plain theorems; no condition.
-/
namespace Go.Gm
open Go.RowKit (Below)

section
variable {P : Program} {E : Env} {S : Nat → Prop} {bs : An} {bx : Bxs} {ρ : Operand → AV} {a : Act} {w : World}

/-- Allowed, and there already. -/
def Lt (S : Nat → Prop) (w : World) (b : Nat) : Prop := S b ∧ b < w.heap.size

/-- Only one row may have turned. -/
theorem grown_keeps {w' : World} {row : Option Nat} (hg : w.grownBy w' row) (hS : ∀ b, S b → row ≠ some b) : Keeps S (Lt S w) w w' :=
  ⟨hg.size, fun b hb hlt => ⟨⟨hb, hlt⟩, hg.block b hlt (fun e => hS b hb e.symm)⟩⟩

theorem append_any (hE : E.Ok P) {t ty : TypeId} {s : SI} (hs : tnil t E.nils = some s) {v : Value} {n : Nat} {xs : List Value} (hown : w.ownsRow 0 s.elem s.esize v n xs) {ad : Option Addr} {m c : Nat} {news : List Value} (hl : news.length = m * s.esize)
    (hsrc : (ad = none ∧ m = 0) ∨ ∃ q, ad = some q ∧ ∀ j u, news[j]? = some u → w.cell? (q.add j) = some u) (h1 : ∀ u, u ∈ news → u.oneCell' = true) (hb : n + m ≤ 1000000) :
    ∃ v' w', (Builtin.append_ #[t, t] ty #[v, .slice ad m c]).run P w = .ok v' w' ∧ w'.ownsRow 0 s.elem s.esize v' (n + m) (xs ++ news) ∧ w.grownBy w' v.ownBlock ∧ (v'.ownBlock = v.ownBlock ∨ v'.ownBlock = some w.heap.size) := by
  have ok := hE.nils _ _ (tnil_mem hs)
  obtain ⟨ti, z, hti, hsz, hz, hzs, hbytes, _⟩ := ok.size
  rcases hsrc with ⟨rfl, rfl⟩ | ⟨q, rfl, hq⟩
  · have : news = [] := List.eq_nil_of_length_eq_zero (by simpa using hl)
    subst this
    refine ⟨v, w, ?_, by simpa using hown, ⟨rfl, rfl, rfl, Nat.le_refl _, fun _ _ _ => rfl⟩, .inl rfl⟩
    rcases hown.2 with ⟨rfl, rfl⟩ | ⟨g, cap, cur, rfl, _, _, hnc, _⟩
    · simp [Builtin.append_, run_underlying ok.under, sizeOf, typeInfo, hti, Builtin.lenOf, Builtin.firstCells]
    · simp [Builtin.append_, run_underlying ok.under, sizeOf, typeInfo, hti, Builtin.lenOf, Builtin.firstCells, hnc, storeCells]
  · obtain ⟨v', w', h1', h2, h3, _, h5⟩ := run_append_own_at (P := P) w 0 t ty s.elem ti z s.esize ti.bytes ok.under hti hz hsz rfl hzs ok.pos v n xs hown q m c news hl hq h1 (by unfold maxLen; omega) (by
      have := Nat.mul_le_mul hb hbytes
      omega) (Nat.zero_le _)
    exact ⟨v', w', h1', h2, h3, h5⟩

theorem appRw_ok (hE : E.Ok P) {t ty : TypeId} {s : SI} (hs : tnil t E.nils = some s) {r r' : Rw} {v u : Value} {y : AV} {pre : Prop} (hr : r.mean S w v) (he : (∃ l, r = .n s.elem l ∧ s.esize = 1) ∨ (∃ l, r = .s s.elem s.esize l) ∨ (∃ n l, r = .ll s.elem n l ∧ s.esize = 1)) (hS : ∀ b, S b → v.ownBlock ≠ some b)
    (hy : y.mean S bs w u) (h : appRw r y = some (pre, r')) (hp : pre) :
    ∃ v' w', (Builtin.append_ #[t, t] ty #[v, u]).run P w = .ok v' w' ∧ r'.mean (Lt S w) w' v' ∧ w.grownBy w' v.ownBlock ∧ (v'.ownBlock = v.ownBlock ∨ v'.ownBlock = some w.heap.size) ∧ r'.isDead = false ∧
      ((∃ l, r' = .n s.elem l ∧ s.esize = 1) ∨ (∃ l, r' = .s s.elem s.esize l) ∨ (∃ n l, r' = .ll s.elem n l ∧ s.esize = 1)) := by
  rcases he with ⟨l, rfl, e1⟩ | ⟨l, rfl⟩ | ⟨n, l, rfl, e1⟩
  · unfold appRw at h
    split at h
    · rename_i e' l' l2 er
      cases er
      simp only [Option.some.injEq, Prod.mk.injEq] at h
      obtain ⟨h1, rfl⟩ := h
      obtain ⟨hl, hown⟩ := hr
      obtain ⟨ad, c, hv, hsrc⟩ := nat_src (S := S) hy
      rw [hv]
      obtain ⟨v', w', g1, g2, g3, g4⟩ := append_any hE (ty := ty) hs (by rw [e1]; exact hown) (ad := ad) (m := l2.length) (c := c) (news := l2.map fun (x : Nat) => Value.int .u32 (x : Int)) (by rw [e1]; simp) (by
        rcases hsrc with ⟨h, h'⟩ | h
        · exact .inl ⟨h, by rw [h']; rfl⟩
        · exact .inr h) (fun u hu => by obtain ⟨x, _, rfl⟩ := List.mem_map.1 hu; rfl) (by rw [← h1] at hp; exact hp)
      refine ⟨v', w', g1, ⟨hl.append hy.1, ?_⟩, g3, g4, rfl, .inl ⟨_, rfl, e1⟩⟩
      rw [e1] at g2
      rw [List.length_append, List.map_append]
      exact g2
    · rename_i e' n' l' m l2 er
      cases er
    · rename_i e' n' l' m l2 er
      cases er
    · cases h
  · unfold appRw at h
    split at h
    · rename_i e' l' l2 er
      cases er
    · rename_i e' n' l' m l2 er
      cases er
      cases hm : Nat.beq m s.esize with
      | false => rw [hm] at h; cases h
      | true =>
        rw [hm] at h
        have em := Nat.eq_of_beq_eq_true hm
        subst em
        simp only [cond_true, Option.some.injEq, Prod.mk.injEq] at h
        obtain ⟨h1, rfl⟩ := h
        obtain ⟨us, hown, hc, hmu, hn⟩ := hr
        obtain ⟨ad, c, us2, hv, hl2, hc2, hm2, hsrc⟩ := row_src (S := S) hy
        rw [hv]
        obtain ⟨v', w', g1, g2, g3, g4⟩ := append_any hE (ty := ty) hs hown (ad := ad) (m := l2.length) (c := c) (news := us2) hl2 (by
          rcases hsrc with ⟨h, h'⟩ | h
          · exact .inl ⟨h, by rw [h']; rfl⟩
          · exact .inr h) hc2 (by rw [← h1] at hp; exact hp)
        have K := grown_keeps g3 hS
        refine ⟨v', w', g1, ⟨us ++ us2, ?_, fun u hu => (List.mem_append.1 hu).elim (hc u) (hc2 u), ?_, ?_⟩, g3, g4, rfl, .inr (.inl ⟨_, rfl⟩)⟩
        · rw [List.length_append]; exact g2
        · rw [List.flatten_append]
          exact (hmu.imp fun _ _ h => h.keep K).append (hm2.imp fun _ _ h => h.keep K)
        · intro x hx
          rcases List.mem_append.1 hx with hx | hx
          · exact hn x hx
          · obtain ⟨k, hk⟩ := List.getElem?_of_mem hx
            obtain ⟨ad', c', _, _, hr'⟩ := hy
            obtain ⟨b, off, _, _, _, hcell⟩ := hr' (by
              have := (List.getElem?_eq_some_iff.1 hk).1
              omega)
            obtain ⟨us', p1, _, p2, _⟩ := hcell k x hk
            rw [p2.length, p1]
    · rename_i e' n' l' m l2 er
      cases er
    · cases h
  · unfold appRw at h
    split at h
    · rename_i e' l' l2 er
      cases er
    · rename_i e' n' l' m l2 er
      cases er
    · rename_i e' n' l' m l2 er
      cases er
      cases hm : Nat.beq m n with
      | false => rw [hm] at h; cases h
      | true =>
        rw [hm] at h
        have em := Nat.eq_of_beq_eq_true hm
        subst em
        simp only [cond_true, Option.some.injEq, Prod.mk.injEq] at h
        obtain ⟨h1, rfl⟩ := h
        obtain ⟨us, hown, hmu⟩ := hr
        obtain ⟨ad, c, hv, _, hr2⟩ := hy
        -- the cells of the source
        have hcells : ∃ us2 : List Value, All2 (Row S w m) l2 us2 ∧ ((ad = none ∧ l2 = []) ∨ ∃ q, ad = some q ∧ ∀ j u, us2[j]? = some u → w.cell? (q.add j) = some u) := by
          cases l2 with
          | nil => exact ⟨[], trivial, by
              cases ad with
              | none => exact .inl ⟨rfl, rfl⟩
              | some q => exact .inr ⟨q, rfl, fun j u hj => by simp at hj⟩⟩
          | cons x l2 =>
            obtain ⟨b, off, rfl, _, _, hcell⟩ := hr2 (by simp)
            have key : ∀ (q : List (List (List BV))) (i : Nat), (∀ k y, q[k]? = some y → ∃ u, Row S w m y u ∧ w.cell? ⟨b, off + (i + k), none⟩ = some u) → ∃ us : List Value, All2 (Row S w m) q us ∧ ∀ j u, us[j]? = some u → w.cell? ⟨b, off + (i + j), none⟩ = some u := by
              intro q
              induction q with
              | nil => intro i _; exact ⟨[], trivial, fun j u hj => by simp at hj⟩
              | cons y q ih =>
                intro i hq
                obtain ⟨u1, p1, p2⟩ := hq 0 y rfl
                obtain ⟨us, q1, q2⟩ := ih (i + 1) (fun k z hz => by
                  obtain ⟨u, r1, r2⟩ := hq (k + 1) z (by simpa using hz)
                  exact ⟨u, r1, by rwa [show i + (k + 1) = i + 1 + k by omega] at r2⟩)
                refine ⟨u1 :: us, ⟨p1, q1⟩, fun j u hj => ?_⟩
                cases j with
                | zero => simp only [List.getElem?_cons_zero, Option.some.injEq] at hj; subst hj; exact p2
                | succ j => have := q2 j u (by simpa using hj); rwa [show i + 1 + j = i + (j + 1) by omega] at this
            obtain ⟨us2, q1, q2⟩ := key (x :: l2) 0 (fun k y hy => by rw [Nat.zero_add]; exact hcell k y hy)
            exact ⟨us2, q1, .inr ⟨_, rfl, fun j u hj => by rw [add_at]; have := q2 j u hj; rwa [Nat.zero_add] at this⟩⟩
        obtain ⟨us2, hm2, hsrc⟩ := hcells
        have hl2 := hm2.length
        rw [hv]
        obtain ⟨v', w', g1, g2, g3, g4⟩ := append_any hE (ty := ty) hs (by rw [e1]; exact hown) (ad := ad) (m := l2.length) (c := c) (news := us2) (by rw [e1, hl2]; simp) (by
          rcases hsrc with ⟨h, h'⟩ | h
          · exact .inl ⟨h, by rw [h']; rfl⟩
          · exact .inr h) (fun u hu => by
            obtain ⟨k, hk⟩ := List.getElem?_of_mem hu
            have hkl : k < l2.length := by rw [hl2]; exact (List.getElem?_eq_some_iff.1 hk).1
            obtain ⟨v, hv', hrow⟩ := hm2.get (List.getElem?_eq_getElem hkl)
            rw [hk] at hv'
            injection hv' with hv'
            subst hv'
            obtain ⟨_, _, rfl, _⟩ := hrow
            rfl) (by rw [← h1] at hp; exact hp)
        have K := grown_keeps g3 hS
        refine ⟨v', w', g1, ⟨us ++ us2, ?_, (hmu.imp fun _ _ h => h.keep K).append (hm2.imp fun _ _ h => h.keep K)⟩, g3, g4, rfl, .inr (.inr ⟨_, _, rfl, e1⟩)⟩
        rw [e1] at g2
        rw [List.length_append]; exact g2
    · cases h

def RowSays (P : Program) (o : Oper) (a : Act) (w : World) (S : Nat → Prop) (bs : An) (bx : Bxs) : RowAct → Prop
  | .mk r => ∃ v w', (execOp a.eval o).run P w = .ok (.value v) w' ∧ r.mean (Lt S w) w' v ∧ r.isDead = false ∧ Ext w w' ∧ ∀ b, v.ownBlock = some b → w.heap.size ≤ b
  | .app k r => ∃ r0 v v' w', nth bx.r k = some r0 ∧ bs.v[k]? = some v ∧ r0.isDead = false ∧ (execOp a.eval o).run P w = .ok (.value v') w' ∧ r.mean (Lt S w) w' v' ∧ r.isDead = false ∧ w.grownBy w' v.ownBlock ∧ (v'.ownBlock = v.ownBlock ∨ v'.ownBlock = some w.heap.size)
  | .set k r => ∃ r0 v w', nth bx.r k = some r0 ∧ bs.v[k]? = some v ∧ r0.isDead = false ∧ (execOp a.eval o).run P w = .ok .skip w' ∧ r.mean (Lt S w) w' v ∧ r.isDead = false ∧ w.grownBy w' v.ownBlock
  | .cp k r n => ∃ r0 v w', nth bx.r k = some r0 ∧ bs.v[k]? = some v ∧ r0.isDead = false ∧ (execOp a.eval o).run P w = .ok (.value (.int .i64 n)) w' ∧ r.mean (Lt S w) w' v ∧ r.isDead = false ∧ w.grownBy w' v.ownBlock

  | .dig k r v => ∃ r0 v0, nth bx.r k = some r0 ∧ bs.v[k]? = some v0 ∧ r0.isDead = false ∧ r.isDead = false ∧ ∀ (KK : Act → World → Prop) (Q : Exit → Act → World → Prop), (∀ w', r.mean (Lt S w) w' v0 → w.grownBy w' v0.ownBlock → KK (a.put o.dst v) w') → o.wp P a w KK Q

variable {dst : Option Tmp} {type : TypeId} {pos : String} {after : Array Edge} {guard : Option (Nat × Bool)}

theorem grown_ext {w' : World} (h : w.grownBy w' none) : Ext w w' := ⟨h.os, h.tape, h.output, h.size, fun k hk => h.block k hk (by simp)⟩

theorem setRow_grown {g : Nat} {cs : Array Value} : w.grownBy (w.setRow g cs) (some g) :=
  ⟨rfl, rfl, rfl, by simp [World.setRow], fun k _ hk => setRow_other w g k cs (fun e => hk (by simpa using e))⟩

theorem row_make (hE : E.Ok P) (hρ : ∀ x, (ρ x).mean S bs w (a.eval x)) {t : TypeId} {x y : Operand} {s : SI} (hs : tnil t E.nils = some s) {m c : Int} (hx : ρ x = .val (.int .i64 m)) (hy : ρ y = .val (.int .i64 c)) (hp : 0 ≤ m ∧ m ≤ c ∧ c ≤ 1000000) :
    ∃ (cur : Array Value), (execOp a.eval ⟨dst, .makeSlice t x y, type, pos, after, guard⟩).run P w = .ok (.value (.slice (some ⟨w.heap.size, 0, none⟩) m.toNat c.toNat)) (w.alloc (.cells cur s.elem)) ∧ cur.size = c.toNat * s.esize ∧
      ∃ zs : List Value, zs.length = s.esize ∧ (∀ A w, All2 (BV.mean A w) s.ezero zs) ∧ cur.toList = (List.replicate c.toNat zs).flatten := by
  have ex := val_mean (hρ x) hx
  have ey := val_mean (hρ y) hy
  have ok := hE.nils _ _ (tnil_mem hs)
  obtain ⟨ti, z, hti, hsz, hz, hzs, hbytes, hzm⟩ := ok.size
  have hb : (ti.bytes : Int) * c ≤ 281474976710656 := by
    have h1 : ti.bytes * c.toNat ≤ 4096 * 1000000 := Nat.mul_le_mul hbytes (by omega)
    have h2 : ((ti.bytes * c.toNat : Nat) : Int) ≤ ((4096 * 1000000 : Nat) : Int) := Int.ofNat_le.2 h1
    rw [Int.natCast_mul, Int.toNat_of_nonneg (by omega)] at h2
    omega
  have hr := run_make (P := P) w t s.elem ti z ok.under hti hz .i64 .i64 m c hp.1 hp.2.1 hb (by omega)
  rw [hsz] at hr
  refine ⟨madeCells z.cells (c.toNat * s.esize), ?_, ?_, z.cells.toList, by simpa using hzs, hzm, ?_⟩
  · simp only [execOp, ex, ey, Sem.run_bind, hr, Result.andThen_ok, Sem.run_pure]
  · rw [size_madeCells]
  · rw [← hzs]
    exact made_eq (by rw [hzs]; exact ok.pos)

theorem take_rep {α : Type} {n m k : Nat} {xs : List α} (hx : xs.length = k) (hm : m ≤ n) : (List.replicate n xs).flatten.take (m * k) = (List.replicate m xs).flatten := by
  have : List.replicate n xs = List.replicate m xs ++ List.replicate (n - m) xs := by
    rw [List.replicate_append_replicate]; congr 1; omega
  rw [this, List.flatten_append, List.take_left']
  have := flatten_len (l := List.replicate m xs) (n := k) (fun x h => by rw [(List.mem_replicate.1 h).2]; exact hx)
  simpa using this

theorem take_splice {α : Type} (L U : List α) (p N : Nat) (h : p + U.length ≤ N) (hN : N ≤ L.length) : (L.take p ++ U ++ L.drop (p + U.length)).take N = (L.take N).take p ++ U ++ (L.take N).drop (p + U.length) := by
  have hl : (L.take p).length = p := by rw [List.length_take]; omega
  have h1 : (L.take N).take p = L.take p := by rw [List.take_take, Nat.min_eq_left (by omega)]
  have h2 : (L.take N).drop (p + U.length) = (L.drop (p + U.length)).take (N - (p + U.length)) := List.drop_take
  rw [h1, h2, List.take_append]
  have hlu : (L.take p ++ U).length = p + U.length := by rw [List.length_append, hl]
  rw [hlu, List.take_of_length_le (by rw [hlu]; exact h)]

theorem row_store (hE : E.Ok P) (hρ : ∀ x, (ρ x).mean S bs w (a.eval x)) {t : TypeId} {x y : Operand} {i : TI} (hi : tinfo t E.tis = some i) {k sz j : Nat} (hx : ρ x = .ownAt k sz j) {e n : Nat} {us ws : List Value}
    (hown : ∀ v, bs.v[k]? = some v → w.ownsRow 0 e sz v n us) (hj : j < n) (hws : (a.eval y).cells.toList = ws) (hwl : ws.length = sz) (hsz : i.size = sz) (h1 : ∀ v, v ∈ ws → v.oneCell' = true) :
    ∃ v w', bs.v[k]? = some v ∧ (execOp a.eval ⟨dst, .store t x y, type, pos, after, guard⟩).run P w = .ok .skip w' ∧ w'.ownsRow 0 e sz v n (us.take (j * sz) ++ ws ++ us.drop (j * sz + sz)) ∧ w.grownBy w' v.ownBlock := by
  have hm := hρ x
  rw [hx] at hm
  obtain ⟨b, n', c, hv, he⟩ := hm
  have ho := hown _ hv
  obtain ⟨g, cap, cur, hvv, hg, htake, hncap, hcs⟩ := own_form ho (by omega)
  injection hvv with hvv1 hvv2 hvv3
  injection hvv1 with hvv1
  injection hvv1 with hvv1
  subst hvv1
  subst hvv2
  subst hvv3
  have hle : j * sz + sz ≤ n' * sz := by
    have : (j + 1) * sz ≤ n' * sz := Nat.mul_le_mul_right _ hj
    rw [Nat.add_mul, Nat.one_mul] at this
    exact this
  have hle2 : n' * sz ≤ c * sz := Nat.mul_le_mul_right _ hncap
  obtain ⟨ti, z, hti, htsz, _⟩ := (hE.tis _ _ (tinfo_mem hi)).info
  have hst := run_storeCells_at (P := P) b (j * sz) e ws 0 cur w hg (by rw [hcs, hwl]; omega) h1
  refine ⟨_, w.setRow b (cur.toList.take (j * sz) ++ ws ++ cur.toList.drop (j * sz + sz)).toArray, hv, ?_, ?_, setRow_grown⟩
  rotate_left 1
  · refine ⟨?_, .inr ⟨b, c, (cur.toList.take (j * sz) ++ ws ++ cur.toList.drop (j * sz + sz)).toArray, rfl, Nat.zero_le _, setRow_heap w b cur _ e (0, 0) hg, hncap, ?_, ?_, ?_⟩⟩
    · have := ho.1
      simp only [List.length_append, List.length_take, List.length_drop, hwl, this]
      omega
    · rcases ho.2 with ⟨h0, _⟩ | ⟨g', cap', cur', hv', _, _, _, hmax, _⟩
      · cases h0
      · injection hv' with _ _ h3
        rw [h3]
        exact hmax
    · simp only [List.size_toArray, List.length_append, List.length_take, List.length_drop, hwl, Array.length_toList, hcs]
      omega
    · rw [← htake]
      have := take_splice cur.toList ws (j * sz) (n' * sz) (by rw [hwl]; exact hle) (by rw [Array.length_toList, hcs]; exact hle2)
      rw [hwl] at this
      exact this
  · have hsize : (a.eval y).cells.size = ti.size := by rw [← Array.length_toList, hws]; omega
    have hsv : (storeVar t ⟨b, j * sz, none⟩ (a.eval y)).run P w = .ok () (w.setRow b (cur.toList.take (j * sz) ++ ws ++ cur.toList.drop (j * sz + sz)).toArray) := by
      simp only [storeVar, sizeOf, typeInfo, Sem.run_bind, run_program, Result.andThen_ok, hti, Sem.run_pure, hsize, ne_eq, not_true, if_false, hws, hst]
      simp [hwl]
    simp only [execOp, Instr.storeAt, he, Instr.sureAddr, Sem.run_bind, Sem.run_pure, Result.andThen_ok, hsv]

end
end Go.Gm

/-
  The frame of all proofs of this seat, part Ed: rows, whichever operation. Plain theorems; no condition.
-/
namespace Go.Gm
open Go.RowKit (Below)

section
variable {P : Program} {E : Env} {S : Nat → Prop} {bs : An} {bx : Bxs} {ρ : Operand → AV} {a : Act} {w : World}

theorem rwIs_of {s : SI} {r : Rw} (h : rwIs s r = true) : (∃ l, r = .n s.elem l ∧ s.esize = 1) ∨ (∃ l, r = .s s.elem s.esize l) ∨ (∃ n l, r = .ll s.elem n l ∧ s.esize = 1) := by
  cases r with
  | n e l =>
    simp only [rwIs, Bool.and_eq_true] at h
    have e1 := Nat.eq_of_beq_eq_true h.1
    exact .inl ⟨l, by rw [e1], Nat.eq_of_beq_eq_true h.2⟩
  | s e n l =>
    simp only [rwIs, Bool.and_eq_true] at h
    have e1 := Nat.eq_of_beq_eq_true h.1
    have e2 := Nat.eq_of_beq_eq_true h.2
    exact .inr (.inl ⟨l, by rw [e1, e2]⟩)
  | ll e n l =>
    simp only [rwIs, Bool.and_eq_true] at h
    have e1 := Nat.eq_of_beq_eq_true h.1
    exact .inr (.inr ⟨n, l, by rw [e1], Nat.eq_of_beq_eq_true h.2⟩)
  | dead => cases h

theorem set_flatten {α : Type} {n : Nat} {l : List (List α)} {us ws xs : List α} (hn : ∀ x, x ∈ l → x.length = n) (hl : l.flatten = us) (hx : xs.length = n) {j : Nat} (hj : j < l.length) (hws : xs = ws) : (l.set j xs).flatten = us.take (j * n) ++ ws ++ us.drop (j * n + n) := by
  subst hl
  subst hws
  induction l generalizing j with
  | nil => simp at hj
  | cons y l ih =>
    have hy := hn y (List.mem_cons_self ..)
    cases j with
    | zero =>
      simp only [List.set_cons_zero, List.flatten_cons, Nat.zero_mul, List.take_zero, List.nil_append, Nat.zero_add]
      rw [← hy, List.drop_left]
    | succ j =>
      simp only [List.set_cons_succ, List.flatten_cons]
      rw [ih (fun x h => hn x (List.mem_cons_of_mem _ h)) (by simpa using hj)]
      subst hy
      have e : (j + 1) * y.length = y.length + j * y.length := by rw [Nat.add_mul, Nat.one_mul]; omega
      have e2 : y.length + j * y.length + y.length = y.length + (j * y.length + y.length) := by omega
      rw [e, List.take_length_add_append, e2, List.drop_length_add_append]
      simp only [List.append_assoc]

theorem copy_ok (hE : E.Ok P) {t u ty : TypeId} {s : SI} (hs : tnil t E.nils = some s) (he1 : s.esize = 1) {e : TypeId} {l l2 : List Nat} {v : Value} {src : Value} (hr : (Rw.n e l).mean S w v) (hy : Rd S w l2 src) (hlen : l2.length = l.length) :
    ∃ w', (Builtin.copy_ #[t, u] ty #[v, src]).run P w = .ok (.int .i64 l2.length) w' ∧ (Rw.n e l2).mean (Lt S w) w' v ∧ w.grownBy w' v.ownBlock := by
  have ok := hE.nils _ _ (tnil_mem hs)
  obtain ⟨ti, z, hti, hsz, _⟩ := ok.size
  have hsz1 : (P.info? s.elem).map (fun i => i.size) = some 1 := by rw [hti]; simp [hsz, he1]
  obtain ⟨hl, hown⟩ := hr
  obtain ⟨ad, c, hv, hsrc⟩ := nat_src (S := S) hy
  rcases Nat.eq_zero_or_pos l.length with h0 | h0
  · have el : l = [] := List.eq_nil_of_length_eq_zero h0
    have el2 : l2 = [] := List.eq_nil_of_length_eq_zero (by omega)
    subst el
    subst el2
    refine ⟨w, ?_, ⟨hl, hown⟩, ⟨rfl, rfl, rfl, Nat.le_refl _, fun _ _ _ => rfl⟩⟩
    obtain ⟨ad', c', hv'⟩ := own_slice hown
    rw [hv', hv]
    cases ad <;> cases ad' <;> simp [Builtin.copy_, run_underlying ok.under, Builtin.lenOf, Builtin.firstCells, sizeOf, typeInfo, hti, storeCells, goInt, loadCells, loadCellsFrom]
  · obtain ⟨g, cap, cur, hvv, hg, htake, hncap, hcs⟩ := own_form hown h0
    rcases hsrc with ⟨_, h'⟩ | ⟨q, rfl, hq⟩
    · rw [h'] at hlen; simp at hlen; omega
    · rw [hv, hvv]
      have hfit : 0 + (l2.map fun (x : Nat) => Value.int .u32 (x : Int)).length ≤ cur.size := by simp; omega
      have hrun := run_copy_row (P := P) w t u ty s.elem g 0 l.length cap q l2.length c cur e (l2.map fun (x : Nat) => Value.int .u32 (x : Int)) ok.under hsz1 hg (by rw [List.length_map, hlen]; exact (Nat.min_self _).symm) hq hfit (fun v hv => by obtain ⟨x, _, rfl⟩ := List.mem_map.1 hv; rfl)
      have eg : goInt (((l2.map fun (x : Nat) => Value.int .u32 (x : Int)).length : Nat) : Int) = Value.int .i64 ((l2.length : Nat) : Int) := by simp [goInt]
      rw [eg] at hrun
      refine ⟨_, hrun, ⟨hy.1, ?_⟩, setRow_grown⟩
      refine ⟨by simp, .inr ⟨g, cap, _, by rw [hlen], Nat.zero_le _, setRow_heap w g cur _ e (0, 0) hg, by omega, ?_, ?_, ?_⟩⟩
      · rcases hown.2 with ⟨h0', _⟩ | ⟨g', cap', cur', hv', _, _, _, hmax, _⟩
        · rw [hvv] at h0'; cases h0'
        · rw [hvv] at hv'
          injection hv' with _ _ h3
          rw [h3]
          exact hmax
      · simp only [List.take_zero, List.nil_append, List.size_toArray, List.length_append, List.length_map, List.length_drop, Array.length_toList, hcs]
        omega
      · simp only [List.take_zero, List.nil_append, Nat.mul_one]
        rw [List.take_left' (by simp)]

theorem rowOut_ok (hE : E.Ok P) (hbx : Boxes S w bs bx) (hρ : ∀ x, (ρ x).mean S bs w (a.eval x)) (hS : ∀ k r v b, nth bx.r k = some r → bs.v[k]? = some v → r.isDead = false → S b → v.ownBlock ≠ some b)
    {o : Oper} {pre : Prop} {act : RowAct} (h : rowOut E bx ρ o.op = some (pre, act)) (hp : pre) : RowSays P o a w S bs bx act := by
  obtain ⟨dst, op, type, pos, after, guard⟩ := o
  simp only at h
  unfold rowOut at h
  split at h
  · -- make
    split at h
    · rename_i s m c hs hx hy
      split at h
      · rename_i l0 hz
        cases hc : Nat.beq s.esize 1 with
        | false => rw [hc] at h; cases h
        | true =>
          rw [hc] at h
          simp only [cond_true, Option.some.injEq, Prod.mk.injEq] at h
          obtain ⟨h1, rfl⟩ := h
          rw [← h1] at hp
          have e1 := Nat.eq_of_beq_eq_true hc
          obtain ⟨cur, hrun, hcs, zs, hzl, hzm, hcur⟩ := row_make (P := P) (dst := dst) (type := type) (pos := pos) (after := after) (guard := guard) hE hρ hs hx hy hp
          refine ⟨_, _, hrun, ⟨Lim.replicate _, ?_⟩, rfl, Ext.alloc w _, fun b hb => by injection hb with hb; exact Nat.le_of_eq hb⟩
          have hz0 := (hE.nils _ _ (tnil_mem hs)).ezn l0 hz
          have hzv : zs = [.int .u32 0] := by
            have := hzm S w
            rw [hz0] at this
            match zs, this with
            | [z], this => rw [show z = .int .u32 0 from this.1]
            | [], this => exact this.elim
            | _ :: _ :: _, this => exact this.2.elim
          rw [List.length_replicate]
          have := ownsRow_new (w := w) (e := s.elem) (size := 1) (n := m.toNat) (cap := c.toNat) (us := (List.replicate m.toNat 0).map fun (x : Nat) => Value.int .u32 (x : Int)) (cur := cur) (by simp) (by omega) (by omega) (by rw [hcs, e1]) (by
            rw [hcur, take_rep (by rw [hzl, e1]) (by omega), hzv]
            generalize m.toNat = q
            induction q with
            | zero => rfl
            | succ q ih => rw [List.replicate_succ, List.replicate_succ, List.flatten_cons, List.map_cons, ih]; rfl)
          exact this
      · rename_i n0 l0 hz
        cases hc : Nat.beq s.ezero.length s.esize with
        | false => rw [hc] at h; cases h
        | true =>
          rw [hc] at h
          simp only [cond_true, Option.some.injEq, Prod.mk.injEq] at h
          obtain ⟨h1, rfl⟩ := h
          rw [← h1] at hp
          have e1 := Nat.eq_of_beq_eq_true hc
          obtain ⟨cur, hrun, hcs, zs, hzl, hzm, hcur⟩ := row_make (P := P) (dst := dst) (type := type) (pos := pos) (after := after) (guard := guard) hE hρ hs hx hy hp
          have hz1 := (hE.nils _ _ (tnil_mem hs)).ez1
          refine ⟨_, _, hrun, ⟨(List.replicate m.toNat zs).flatten, ?_, ?_, rep_mean (hzm _ _) _, ?_⟩, rfl, Ext.alloc w _, fun b hb => by injection hb with hb; exact Nat.le_of_eq hb⟩
          · rw [List.length_replicate]
            exact ownsRow_new (by
              have := flatten_len (l := List.replicate m.toNat zs) (n := s.esize) (fun x h => by rw [(List.mem_replicate.1 h).2]; exact hzl)
              simpa using this) (by omega) (by omega) hcs (by rw [hcur, take_rep hzl (by omega)])
          · intro u hu
            obtain ⟨q, hq1, hq2⟩ := List.mem_flatten.1 hu
            rw [(List.mem_replicate.1 hq1).2] at hq2
            exact all_cell1 (bvs_mean (hzm S w)) hz1 u hq2
          · intro x hx
            rw [(List.mem_replicate.1 hx).2]
            exact e1
      · cases h
    · cases h
  · -- buildSlice
    split at h
    · rename_i s hs
      split at h
      · split at h
        · rename_i xs hl
          cases hc : (Nat.beq xs.length _ && Nat.beq s.esize 1 && Nat.ble _ 1000 && Nat.blt 0 _) with
          | false => rw [hc] at h; cases h
          | true =>
            rw [hc] at h
            simp only [cond_true, Option.some.injEq, Prod.mk.injEq] at h
            obtain ⟨h1, rfl⟩ := h
            rw [← h1] at hp
            obtain ⟨_, hrun, hn, hlim⟩ := do_buildN (P := P) (dst := dst) (type := type) (pos := pos) (after := after) (guard := guard) hE hρ hs hl hc hp
            refine ⟨_, _, hrun, ⟨hlim, ?_⟩, rfl, Ext.alloc w _, fun b hb => by injection hb with hb; exact Nat.le_of_eq hb⟩
            rw [List.length_map, ← hn]
            simp only [Bool.and_eq_true] at hc
            have e2 := Nat.le_of_ble_eq_true hc.1.2
            exact ownsRow_new (by simp [hn]) (Nat.le_refl _) (by omega) (by simp [hn]) (by rw [List.take_of_length_le (by simp [hn])])
        · cases h
      · split at h
        · rename_i l hl
          cases hc : (Nat.beq l.length _ && Nat.ble (_ * s.esize) 1000 && Nat.blt 0 _) with
          | false => rw [hc] at h; cases h
          | true =>
            rw [hc] at h
            simp only [cond_true, Option.some.injEq, Prod.mk.injEq] at h
            obtain ⟨h1, rfl⟩ := h
            obtain ⟨_, us, hrun, hn, hc1, hm, hall⟩ := do_buildS (P := P) (dst := dst) (type := type) (pos := pos) (after := after) (guard := guard) hE hρ hs hl hc
            have K : Keeps S (Lt S w) w (w.alloc (.cells us.toArray s.elem)) := (Ext.alloc w _).keepsTo fun b hb hlt => ⟨hb, hlt⟩
            refine ⟨_, _, hrun, ⟨us, ?_, hc1, hm.imp fun _ _ h => h.keep K, hall⟩, rfl, Ext.alloc w _, fun b hb => by injection hb with hb; exact Nat.le_of_eq hb⟩
            have hul : us.length = l.length * s.esize := by rw [← hm.length, flatten_len hall]
            rw [← hn]
            simp only [Bool.and_eq_true] at hc
            have e2 := Nat.le_of_ble_eq_true hc.1.2
            have hpos := (hE.nils _ _ (tnil_mem hs)).pos
            refine ownsRow_new (by rw [hul, hn]) (Nat.le_refl _) ?_ (by simp [hul, hn]) (by rw [List.take_of_length_le (by simp [hul, hn])])
            have := Nat.le_mul_of_pos_right (l.length) hpos
            rw [← hn] at this
            omega
        · cases h
      · split at h
        · rename_i l hl
          cases hc : (Nat.beq l.length _ && Nat.beq s.esize 1 && Nat.ble _ 1000 && Nat.blt 0 _) with
          | false => rw [hc] at h; cases h
          | true =>
            rw [hc] at h
            simp only [cond_true, Option.some.injEq, Prod.mk.injEq] at h
            obtain ⟨h1, rfl⟩ := h
            obtain ⟨_, us, hrun, hn, hm⟩ := do_buildL (P := P) (dst := dst) (type := type) (pos := pos) (after := after) (guard := guard) hE hρ hs hl hc
            have K : Keeps S (Lt S w) w (w.alloc (.cells us.toArray s.elem)) := (Ext.alloc w _).keepsTo fun b hb hlt => ⟨hb, hlt⟩
            refine ⟨_, _, hrun, ⟨us, ?_, hm.imp fun _ _ h => h.keep K⟩, rfl, Ext.alloc w _, fun b hb => by injection hb with hb; exact Nat.le_of_eq hb⟩
            have hul : us.length = l.length := hm.length.symm
            rw [← hn]
            simp only [Bool.and_eq_true] at hc
            have e2 := Nat.le_of_ble_eq_true hc.1.2
            exact ownsRow_new (by simp [hul, hn]) (Nat.le_refl _) (by omega) (by simp [hul, hn]) (by rw [List.take_of_length_le (by simp [hul, hn])])
        · cases h
      · cases h
    · cases h
  · -- append
    rename_i args argTypes
    split at h
    · rename_i x y t u hx hy
      have e1 : args = #[x, y] := by apply Array.ext'; simpa using hx
      have e2 : argTypes = #[t, u] := by apply Array.ext'; simpa using hy
      subst e1
      subst e2
      cases htu : Nat.beq t u with
      | false => rw [htu] at h; cases h
      | true =>
        rw [htu] at h
        have etu := Nat.eq_of_beq_eq_true htu
        subst etu
        simp only [cond_true] at h
        split at h
        · rename_i s hs
          have hexec : ∀ v' w', (Builtin.append_ #[t, t] type #[a.eval x, a.eval y]).run P w = .ok v' w' → (execOp a.eval ⟨dst, .call { callee := .builtin .append, args := #[x, y], argTypes := #[t, t] }, type, pos, after, guard⟩).run P w = .ok (.value v') w' := by
            intro v' w' hr
            simp only [execOp, resolve, invoke, builtin, Sem.run_bind, Sem.run_pure, Result.andThen_ok, List.map_toArray, List.map_cons, List.map_nil, hr]
          split at h
          · rename_i k hk
            split at h
            · rename_i r hr
              cases hrw : rwIs s r with
              | false => rw [hrw] at h; cases h
              | true =>
                rw [hrw] at h
                simp only [cond_true] at h
                split at h
                · rename_i pre' r' happ
                  simp only [Option.some.injEq, Prod.mk.injEq] at h
                  obtain ⟨h1, rfl⟩ := h
                  rw [← h1] at hp
                  have hm := hρ x
                  rw [hk] at hm
                  have hm' : bs.v[k]? = some (a.eval x) := hm
                  obtain ⟨v, hv, hmean⟩ := row_at hbx hr
                  rw [hm'] at hv
                  injection hv with hv
                  subst hv
                  have hlive : r.isDead = false := by cases r <;> first | rfl | cases hrw
                  obtain ⟨v', w', g1, g2, g3, g4, g5, _⟩ := appRw_ok (P := P) (ty := type) hE hs hmean (rwIs_of hrw) (fun b hb => hS k r _ b hr hm' hlive hb) (nilTo_mean hE (hρ y)) happ hp
                  exact ⟨r, a.eval x, v', w', hr, hm', hlive, hexec _ _ g1, g2, g5, g3, g4⟩
                · cases h
            · cases h
          · rename_i hk
            split at h
            · rename_i r hr
              split at h
              · rename_i pre' r' happ
                simp only [Option.some.injEq, Prod.mk.injEq] at h
                obtain ⟨h1, rfl⟩ := h
                rw [← h1] at hp
                have hx' : a.eval x = .slice none 0 0 := val_mean (hρ x) hk
                have hnil : ∀ e size, w.ownsRow 0 e size (.slice none 0 0) 0 [] := fun e size => ⟨by simp, .inl ⟨rfl, rfl⟩⟩
                have hmean : r.mean S w (.slice none 0 0) ∧ ((∃ l, r = .n s.elem l ∧ s.esize = 1) ∨ (∃ l, r = .s s.elem s.esize l) ∨ (∃ n l, r = .ll s.elem n l ∧ s.esize = 1)) := by
                  unfold nilRw at hr
                  split at hr
                  · cases hc : Nat.beq s.esize 1 with
                    | false => rw [hc] at hr; cases hr
                    | true =>
                      rw [hc] at hr
                      injection hr with hr
                      subst hr
                      exact ⟨⟨Lim.nil, hnil _ _⟩, .inl ⟨_, rfl, Nat.eq_of_beq_eq_true hc⟩⟩
                  · injection hr with hr
                    subst hr
                    exact ⟨⟨[], hnil _ _, (fun u hu => by cases hu), trivial, (fun x hx => by cases hx)⟩, .inr (.inl ⟨_, rfl⟩)⟩
                  · cases hc : Nat.beq s.esize 1 with
                    | false => rw [hc] at hr; cases hr
                    | true =>
                      rw [hc] at hr
                      injection hr with hr
                      subst hr
                      exact ⟨⟨[], hnil _ _, trivial⟩, .inr (.inr ⟨_, _, rfl, Nat.eq_of_beq_eq_true hc⟩)⟩
                  · cases hr
                obtain ⟨v', w', g1, g2, g3, g4, g5, _⟩ := appRw_ok (P := P) (ty := type) hE hs hmean.1 hmean.2 (fun b _ hb => by cases hb) (nilTo_mean hE (hρ y)) happ hp
                rw [← hx'] at g1
                refine ⟨v', w', hexec _ _ g1, g2, g5, grown_ext g3, fun b hb => ?_⟩
                rcases g4 with g4 | g4
                · rw [g4] at hb; cases hb
                · rw [g4] at hb; injection hb with hb; omega
              · cases h
            · cases h
          · cases h
        · cases h
    · cases h
  · -- copy
    rename_i args argTypes
    split at h
    · rename_i x y t u hx hy
      have e1 : args = #[x, y] := by apply Array.ext'; simpa using hx
      have e2 : argTypes = #[t, u] := by apply Array.ext'; simpa using hy
      subst e1
      subst e2
      split at h
      · rename_i s k l2 hs hk hl2
        split at h
        · rename_i e l hr
          cases hc : Nat.beq s.esize 1 with
          | false => rw [hc] at h; cases h
          | true =>
            rw [hc] at h
            simp only [cond_true, Option.some.injEq, Prod.mk.injEq] at h
            obtain ⟨h1, rfl⟩ := h
            rw [← h1] at hp
            have hm := hρ x
            rw [hk] at hm
            have hm' : bs.v[k]? = some (a.eval x) := hm
            obtain ⟨v, hv, hmean⟩ := row_at hbx hr
            rw [hm'] at hv
            injection hv with hv
            subst hv
            have hsrc := nilTo_mean hE (t := u) (hρ y)
            rw [hl2] at hsrc
            obtain ⟨w', g1, g2, g3⟩ := copy_ok (P := P) (t := t) (u := u) (ty := type) hE hs (Nat.eq_of_beq_eq_true hc) hmean hsrc hp
            refine ⟨_, _, w', hr, hm', rfl, ?_, g2, rfl, g3⟩
            simp only [execOp, resolve, invoke, builtin, Sem.run_bind, Sem.run_pure, Result.andThen_ok, List.map_toArray, List.map_cons, List.map_nil, g1]
        · cases h
      · cases h
    · cases h
  · -- a call that changes a part of a row, or looks into a row
    rename_i f args argTypes
    split at h
    · split at h
      · rename_i x y t u hx hy
        have e1 : args = #[x, y] := by apply Array.ext'; simpa using hx
        have e2 : argTypes = #[t, u] := by apply Array.ext'; simpa using hy
        subst e1
        subst e2
        split at h
        · rename_i k i hk hi
          split at h
          · rename_i e l hr
            split at h
            · rename_i pre' v hf
              simp only [Option.some.injEq, Prod.mk.injEq] at h
              obtain ⟨h1, rfl⟩ := h
              rw [← h1] at hp
              obtain ⟨sp, hmem, hs⟩ := findK_mem hf
              obtain ⟨hv, fn, hfn, hbody, hname⟩ := hE.K _ _ hmem
              have hm := hρ x
              rw [hk] at hm
              have hb : bs.v[k]? = some (a.eval x) := hm
              obtain ⟨v0, hv0, hmean⟩ := row_at hbx hr
              rw [hb] at hv0
              injection hv0 with hv0
              subst hv0
              have hiv := val_mean (hρ y) hi
              have hrd : Rd (fun _ => True) w l (a.eval x) := Rw.cv_mean (A := fun _ => True) hmean rfl (fun _ _ _ => trivial) (fun _ _ => trivial)
              have hc := hv l i _ v hs hp (fun _ => True) w (a.eval x) hrd
              refine ⟨_, _, hr, hb, rfl, rfl, fun KK Q hK => ?_⟩
              have hname' : ¬ fn.name = "runtime.NumGoroutine" := by simpa using hname
              have hbody' : ¬ fn.body = none := by intro h; rw [h] at hbody; cases hbody
              have hrun : (execOp a.eval ⟨dst, .call { callee := .value (.func f), args := #[x, y], argTypes := #[t, u] }, type, pos, after, guard⟩).run P w = .ok (.enter f #[a.eval x, a.eval y]) w := by
                simp [execOp, resolve, invoke, Act.eval, Deferred.ofValue, callFunc, hfn, hbody', hname']
              unfold Oper.wp
              rw [hrun, hiv]
              refine hc.mono ?_
              rintro en w' ⟨rfl, he⟩
              refine hK w' (hmean.keep (S' := Lt S w) ⟨he.size, fun b hb hlt => ⟨⟨hb, hlt⟩, he.block b hlt⟩⟩ (fun b _ hlt => he.block b hlt)) ⟨he.os, he.tape, he.output, he.size, fun b hlt _ => he.block b hlt⟩
            · cases h
          · cases h
        · cases h
      · cases h
    · split at h
      · cases h
      · split at h
        · rename_i x y t u hx hy
          have e1 : args = #[x, y] := by apply Array.ext'; simpa using hx
          have e2 : argTypes = #[t, u] := by apply Array.ext'; simpa using hy
          subst e1
          subst e2
          split at h
          · rename_i k lo n o lv hk hlv
            split at h
            · rename_i e l hr
              split at h
              · rename_i pre' l' q hf
                simp only [Option.some.injEq, Prod.mk.injEq] at h
                obtain ⟨h1, rfl⟩ := h
                rw [← h1] at hp
                obtain ⟨sp, hmem, hs⟩ := findD_mem hf
                obtain ⟨hv, fn, hfn, hbody, hname⟩ := hE.D _ _ hmem
                have hm := hρ x
                rw [hk] at hm
                obtain ⟨b, N, c, c', hb, ⟨hvx, hnc⟩, _⟩ := hm
                obtain ⟨v0, hv0, hmean⟩ := row_at hbx hr
                rw [hb] at hv0
                injection hv0 with hv0
                subst hv0
                have hy' := nilTo_mean hE (t := u) (hρ y)
                rw [hlv] at hy'
                have hnS : ¬ S b := fun hb' => hS k _ _ b hr hb rfl hb' rfl
                have hc := hv l lo n lv _ l' q hs hp S w e b N c c' (a.eval y) hmean.1 hmean.2 hnc hy' hnS
                refine ⟨_, _, hr, hb, rfl, rfl, fun KK Q hK => ?_⟩
                have hname' : ¬ fn.name = "runtime.NumGoroutine" := by simpa using hname
                have hbody' : ¬ fn.body = none := by intro h; rw [h] at hbody; cases hbody
                have hrun : (execOp a.eval ⟨dst, .call { callee := .value (.func f), args := #[x, y], argTypes := #[t, u] }, type, pos, after, guard⟩).run P w = .ok (.enter f #[a.eval x, a.eval y]) w := by
                  simp [execOp, resolve, invoke, Act.eval, Deferred.ofValue, callFunc, hfn, hbody', hname']
                unfold Oper.wp
                rw [hrun, hvx]
                refine hc.mono ?_
                rintro en w' ⟨rfl, g1, g2, g3⟩
                exact hK w' ⟨g1, g2⟩ g3
              · cases h
            · cases h
          · cases h
        · cases h
  · -- store
    rename_i t x y
    split at h
    · rename_i i k sz j hi hx
      split at h
      · rename_i e l hr
        split at h
        · rename_i v hy
          cases hc : (Nat.beq sz 1 && Nat.beq i.size 1) with
          | false => rw [hc] at h; cases h
          | true =>
            rw [hc] at h
            simp only [cond_true, Option.some.injEq, Prod.mk.injEq] at h
            obtain ⟨h1, rfl⟩ := h
            rw [← h1] at hp
            simp only [Bool.and_eq_true] at hc
            have e1 := Nat.eq_of_beq_eq_true hc.1
            have e2 := Nat.eq_of_beq_eq_true hc.2
            subst e1
            have hyv := val_mean (hρ y) hy
            obtain ⟨v0, hv0, hmean⟩ := row_at hbx hr
            obtain ⟨v1, w', g1, g2, g3, g4⟩ := row_store (P := P) (dst := dst) (type := type) (pos := pos) (after := after) (guard := guard) (y := y) hE hρ hi hx (e := e) (n := l.length) (us := l.map fun (x : Nat) => Value.int .u32 (x : Int)) (ws := [.int .u32 v]) (fun q hq => by
              rw [hv0] at hq; injection hq with hq; subst hq; exact hmean.2) hp.1 (by rw [hyv]; rfl) rfl e2 (fun q hq => by simp only [List.mem_singleton] at hq; subst hq; rfl)
            refine ⟨_, v1, w', hr, g1, rfl, g2, ⟨hmean.1.set _ (by rw [B_eq]; omega), ?_⟩, rfl, g4⟩
            have : (l.set j v.toNat).map (fun (x : Nat) => Value.int .u32 (x : Int)) = (l.map fun (x : Nat) => Value.int .u32 (x : Int)).take (j * 1) ++ [.int .u32 v] ++ (l.map fun (x : Nat) => Value.int .u32 (x : Int)).drop (j * 1 + 1) := by
              rw [List.map_set, Nat.mul_one, Int.toNat_of_nonneg hp.2.1]
              rw [List.set_eq_take_append_cons_drop, if_pos (by simpa using hp.1)]
              simp
            rw [this, List.length_set]
            exact g3
        · cases h
      · rename_i e n l hr
        split at h
        · rename_i cs hcs
          split at h
          · rename_i xs hxs
            cases hc : (Nat.beq sz n && Nat.beq i.size n && Nat.beq xs.length n && cs.all CV.cell1 && (nilTo E t (ρ y)).cell1) with
            | false => rw [hc] at h; cases h
            | true =>
              rw [hc] at h
              simp only [cond_true, Option.some.injEq, Prod.mk.injEq] at h
              obtain ⟨h1, rfl⟩ := h
              rw [← h1] at hp
              simp only [Bool.and_eq_true] at hc
              obtain ⟨⟨⟨⟨c1, c2⟩, c3⟩, c4⟩, c5⟩ := hc
              have e1 := Nat.eq_of_beq_eq_true c1
              have e2 := Nat.eq_of_beq_eq_true c2
              have e3 := Nat.eq_of_beq_eq_true c3
              subst e1
              have hcm := cells_mean (nilTo_mean hE (t := t) (hρ y)) hcs c5
              have hbm := toBVs_mean hxs hcm
              have hall1 := all_cell1 hcm c4
              obtain ⟨v0, hv0, hmean⟩ := row_at hbx hr
              obtain ⟨us, ho, h1c, hmu, hn⟩ := hmean
              obtain ⟨v1, w', g1, g2, g3, g4⟩ := row_store (P := P) (dst := dst) (type := type) (pos := pos) (after := after) (guard := guard) (y := y) hE hρ hi hx (e := e) (n := l.length) (us := us) (ws := (a.eval y).cells.toList) (fun q hq => by
                rw [hv0] at hq; injection hq with hq; subst hq; exact ho) hp rfl (by rw [← hbm.length]; exact e3) e2 hall1
              have K := grown_keeps g4 (fun b hb => hS k _ v1 b hr g1 rfl hb)
              refine ⟨_, v1, w', hr, g1, rfl, g2, ⟨us.take (j * sz) ++ (a.eval y).cells.toList ++ us.drop (j * sz + sz), ?_, ?_, ?_, ?_⟩, rfl, g4⟩
              · rw [List.length_set]; exact g3
              · intro u hu
                rcases List.mem_append.1 hu with hu | hu
                · rcases List.mem_append.1 hu with hu | hu
                  · exact h1c u (List.mem_of_mem_take hu)
                  · exact hall1 u hu
                · exact h1c u (List.mem_of_mem_drop hu)
              · rw [set_flatten hn rfl e3 hp rfl]
                have hmu' := hmu.imp fun _ _ h => BV.mean.keep h K
                exact ((hmu'.take _).append (hbm.imp fun _ _ h => BV.mean.keep h K)).append (hmu'.drop _)
              · intro x hx
                rcases List.mem_or_eq_of_mem_set hx with hx | rfl
                · exact hn x hx
                · exact e3
          · cases h
        · cases h
      · cases h
    · cases h
  · cases h

end
end Go.Gm

