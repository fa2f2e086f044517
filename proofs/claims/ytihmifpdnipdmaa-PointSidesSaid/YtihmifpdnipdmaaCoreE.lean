/-
  The frame of all proofs of this seat, part E: one operation, whichever. Plain theorems; no condition.
-/
import Derived.Test.YtihmifpdnipdmaaCoreD
set_option linter.all false
namespace Go.Gm
open Go.RowKit (Below)

section
variable {P : Program} {E : Env} {S : Nat → Prop} {bs : An} {bx : Bxs} {ρ : Operand → AV} {a : Act} {w : World}

theorem binOut_good (hE : E.Ok P) (hρ : ∀ x, (ρ x).mean S bs w (a.eval x)) {op : BinOp} {t u : TypeId} {x y : Operand} {dst : Option Tmp} {type : TypeId} {pos : String} {after : Array Edge} {guard : Option (Nat × Bool)} :
    (binOut E op t (ρ x) (ρ y)).Good P ⟨dst, .binOp op t x y u, type, pos, after, guard⟩ a w S bs := by
  unfold binOut
  split
  · rename_i cs ds hx hy
    split
    · rename_i b hb
      exact do_bin_agg hE hρ hx hy hb (.inl ⟨rfl, rfl⟩)
    · rename_i b hb
      exact do_bin_agg hE hρ hx hy hb (.inr ⟨rfl, rfl⟩)
    · trivial
  · rename_i k m k' n hx hy
    split
    · exact fun hn => do_shift hρ hx hy hn (.inl ⟨rfl, rfl⟩)
    · exact fun hn => do_shift hρ hx hy hn (.inr ⟨rfl, rfl⟩)
    · by_cases hk : k = k'
      · subst hk
        simp only [decide_true, cond_true]
        exact do_bin_int hρ hx hy
      · simp only [hk, decide_false, cond_false]
        trivial
  · rename_i m n hx hy
    split
    · rename_i hb
      exact do_bin_bool hE hρ hx hy (by simpa using hb) (.inl ⟨rfl, rfl⟩)
    · rename_i hb
      exact do_bin_bool hE hρ hx hy (by simpa using hb) (.inr ⟨rfl, rfl⟩)
    · trivial
  · trivial

theorem opOut_good (hE : E.Ok P) (hbx : Boxes S w bs bx) (hρ : ∀ x, (ρ x).mean S bs w (a.eval x)) (o : Oper) : (opOut E bx ρ o).Good P o a w S bs := by
  obtain ⟨dst, op, type, pos, after, guard⟩ := o
  unfold opOut
  simp only
  split
  · exact do_move hρ _
  · exact do_assign hρ _
  · split
    · rename_i hc; exact do_pick hρ _ _ _ true hc
    · rename_i hc; exact do_pick hρ _ _ _ false hc
    · trivial
  · split
    · rename_i hi
      split
      · rename_i ha hg hf
        exact do_build hE hρ hi ha hg hf
      · trivial
    · trivial
  · split
    · rename_i hi
      split
      · rename_i hx
        split
        · rename_i hk
          split
          · rename_i hv hl
            exact do_load_ptr hE hbx hρ hi hx hk hv hl
          · trivial
        · trivial
      · rename_i hx
        split
        · rename_i hv hl
          exact do_load_elem hE hρ hi hx hv hl
        · trivial
      · rename_i k sz j hx
        split
        · rename_i hr hg
          exact good_cond fun hn hp => do_load_ownN hE hbx hρ hi hg hx hr hn hp
        · rename_i hr hg
          exact good_cond fun hn hp => do_load_ownS hE hbx hρ hi hg hx hr hn hp
        · rename_i hr hg
          exact good_cond fun hn hp => do_load_ownL hE hbx hρ hi hg hx hr hn hp
        · trivial
      · trivial
    · trivial
  · exact binOut_good hE hρ
  · exact do_un hρ
  · split
    · rename_i hs hd hx
      exact do_convert hE hρ hs hd hx
    · trivial
  · split
    · rename_i hi
      split
      · rename_i hx hf ha hg
        exact do_fieldAddr hE hρ hi hf ha hg (.inl ⟨_, _, hx, rfl⟩)
      · rename_i hx hf ha hg
        exact do_fieldAddr hE hρ hi hf ha hg (.inr ⟨_, hx, rfl⟩)
      · trivial
    · trivial
  · split
    · rename_i hx
      split
      · rename_i hy
        exact do_extract hρ hx hy
      · trivial
    · trivial
  · split
    · rename_i hxs hn
      split
      · rename_i hf
        exact fun hp => do_call hE hρ hxs hn hf hp
      · rename_i hf
        exact fun hp => do_call hE hρ hxs hn hf hp
      · trivial
    · trivial
  · split
    · rename_i s hs
      split
      · split
        · rename_i hl
          exact good_cond fun hc hp => (do_buildN hE hρ hs hl hc hp).1
        · trivial
      · split
        · rename_i hl
          exact good_cond fun hc => (do_buildS hE hρ hs hl hc).1
        · trivial
      · split
        · rename_i hl
          exact good_cond fun hc => (do_buildL hE hρ hs hl hc).1
        · trivial
      · trivial
    · trivial
  · rename_i args argTypes
    split
    · rename_i x t hx ht
      have e1 : args = #[x] := by apply Array.ext'; simpa using hx
      have e2 : argTypes = #[t] := by apply Array.ext'; simpa using ht
      subst e1
      subst e2
      split
      · rename_i hl hs
        exact do_len hE hρ hs (.inl ⟨_, hl, rfl⟩)
      · rename_i hl hs
        exact do_len hE hρ hs (.inr (.inl ⟨_, _, hl, rfl⟩))
      · rename_i hl hs
        exact do_len hE hρ hs (.inr (.inr ⟨_, _, hl, rfl⟩))
      · rename_i hl hs
        exact do_len_part hE hρ hs hl
      · rename_i hl hs
        split
        · rename_i hr
          exact do_len_own hE hbx hρ hs hl hr (.inl ⟨_, _, rfl, rfl⟩)
        · rename_i hr
          exact do_len_own hE hbx hρ hs hl hr (.inr (.inl ⟨_, _, _, rfl, rfl⟩))
        · rename_i hr
          exact do_len_own hE hbx hρ hs hl hr (.inr (.inr ⟨_, _, _, rfl, rfl⟩))
        · trivial
      · trivial
    · trivial
  · split
    · rename_i hi
      split
      · rename_i s hs
        split
        · rename_i hx
          cases hn : Nat.beq s.esize 1
          · trivial
          · exact fun hp => do_index_nat hE hρ hs hi hp hx hn
        · rename_i n l hx
          cases hn : Nat.beq s.esize n
          · trivial
          · exact fun hp => do_index_sl hE hρ hs hi hp hx hn
        · rename_i n l hx
          cases hn : Nat.beq s.esize 1
          · trivial
          · exact fun hp => do_index_sll hE hρ hs hi hp hx hn
        · rename_i k hx
          split
          · rename_i hr
            cases hn : Nat.beq s.esize 1
            · trivial
            · exact fun hp => do_index_own hE hbx hρ hs hi hx hr (.inl ⟨_, _, rfl, rfl⟩) hp (Nat.eq_of_beq_eq_true hn)
          · rename_i n l hr
            cases hn : Nat.beq s.esize n
            · trivial
            · exact fun hp => do_index_own hE hbx hρ hs hi hx hr (.inr (.inl ⟨_, _, _, rfl, rfl⟩)) hp (Nat.eq_of_beq_eq_true hn)
          · rename_i hr
            cases hn : Nat.beq s.esize 1
            · trivial
            · exact fun hp => do_index_own hE hbx hρ hs hi hx hr (.inr (.inr ⟨_, _, _, rfl, rfl⟩)) hp (Nat.eq_of_beq_eq_true hn)
          · trivial
        · rename_i k lo n o hx
          split
          · rename_i hr
            cases hn : Nat.beq s.esize 1
            · trivial
            · exact fun hp => do_index_part hE hρ hs hi hx hp (Nat.eq_of_beq_eq_true hn)
          · trivial
        · trivial
      · split
        · rename_i hti hx
          split
          · rename_i hf ha
            exact fun hp => do_index_arr hE hρ hti hi hp hx hf ha
          · trivial
        · trivial
    · trivial
  · split
    · rename_i s l bl bh hs hx hl hh
      exact good_cond fun hn hp => do_cutN hE hρ hs hl hh hx hn hp
    · rename_i s n l bl bh hs hx hl hh
      exact good_cond fun hn hp => do_cutS hE hρ hs hl hh hx hn hp
    · rename_i s k bl bh hs hx hl hh
      split
      · rename_i hr
        exact good_cond fun hn hp => do_cut_own hE hbx hρ hs hl hh hx hr hn hp
      · trivial
    · trivial
  · rename_i args argTypes
    split
    · rename_i x y hx
      have e1 : args = #[x, y] := by apply Array.ext'; simpa using hx
      subst e1
      split
      · rename_i h1 h2
        exact do_max hρ h1 h2
      · trivial
    · trivial
  · rename_i args argTypes
    split
    · rename_i x y hx
      have e1 : args = #[x, y] := by apply Array.ext'; simpa using hx
      subst e1
      split
      · rename_i h1 h2
        exact do_min hρ h1 h2
      · trivial
    · trivial
  · split
    · rename_i hx hf
      exact do_field hE hρ hx hf
    · trivial
  · split
    · rename_i h1 h2 ht
      exact fun hj => do_strIndex hE hρ h1 h2 (by simpa using ht) hj
    · trivial
  · trivial

/-- A new box. -/
theorem allocOut_ok (hE : E.Ok P) (hρ : ∀ x, (ρ x).mean S bs w (a.eval x)) {o : Oper} {t : TypeId} {cs : List CV} (h : allocOut E ρ o.op = some (t, cs)) :
    ∃ us : List Value, All2 (CV.mean S w) cs us ∧ ∀ (K : Act → World → Prop) (Q : Exit → Act → World → Prop),
      K (a.put o.dst (.pointer (some ⟨w.heap.size, 0, none⟩))) (w.alloc (.cells us.toArray t)) → o.wp P a w K Q := by
  obtain ⟨dst, op, type, pos, after, guard⟩ := o
  have fin : ∀ us : List Value, (execOp a.eval ⟨dst, op, type, pos, after, guard⟩).run P w = .ok (.value (.pointer (some ⟨w.heap.size, 0, none⟩))) (w.alloc (.cells us.toArray t)) → All2 (CV.mean S w) cs us →
      ∃ us : List Value, All2 (CV.mean S w) cs us ∧ ∀ (K : Act → World → Prop) (Q : Exit → Act → World → Prop),
      K (a.put dst (.pointer (some ⟨w.heap.size, 0, none⟩))) (w.alloc (.cells us.toArray t)) → Oper.wp P ⟨dst, op, type, pos, after, guard⟩ a w K Q := by
    intro us hr hm
    refine ⟨us, hm, fun K Q hK => ?_⟩
    unfold Oper.wp
    rw [hr]
    exact hK
  simp only at h
  unfold allocOut at h
  split at h
  · split at h
    · rename_i i hi
      simp only [Option.some.injEq, Prod.mk.injEq] at h
      obtain ⟨rfl, rfl⟩ := h
      obtain ⟨ti, z, hti, hsz, hz, hzl, hzm⟩ := (hE.tis _ _ (tinfo_mem hi)).info
      refine fin z.cells.toList ?_ (hzm S w)
      simp [execOp, Instr.alloc, zeroValue, typeInfo, hti, hz, newVar, newRow]
    · cases h
  · rename_i t' x
    split at h
    · rename_i cs' hc h1
      simp only [Option.some.injEq, Prod.mk.injEq] at h
      obtain ⟨rfl, rfl⟩ := h
      refine fin (a.eval x).cells.toList ?_ (cells_mean (hρ x) hc h1)
      simp [execOp, Instr.box, newVar, newRow]
    · cases h
  · cases h

/-- A store into a box. -/
theorem storeOut_ok (hE : E.Ok P) (hbx : Boxes S w bs bx) (hρ : ∀ x, (ρ x).mean S bs w (a.eval x)) {o : Oper} {k off : Nat} {vs : List CV} (h : storeOut E bx ρ o.op = some (k, off, vs)) :
    ∃ (t : TypeId) (cs : List CV) (b : Nat) (us ws : List Value), nth bx.b k = some (t, cs) ∧ bs.b[k]? = some b ∧ w.heap[b]? = some (.cells us.toArray t (0, 0)) ∧ All2 (CV.mean S w) cs us ∧ All2 (CV.mean S w) vs ws ∧ off + ws.length ≤ us.length ∧
      ∀ (K : Act → World → Prop) (Q : Exit → Act → World → Prop), K (a.put o.dst undef) (w.setRow b (us.take off ++ ws ++ us.drop (off + ws.length)).toArray) → o.wp P a w K Q := by
  obtain ⟨dst, op, type, pos, after, guard⟩ := o
  simp only at h
  unfold storeOut at h
  split at h
  · rename_i t x y
    split at h
    · rename_i i k' off' vs' hi hx hy
      split at h
      · rename_i t' cs hk
        cases hc : (Nat.beq vs'.length i.size && Nat.ble (off' + vs'.length) cs.length && vs'.all CV.cell1 && (nilTo E t (ρ y)).cell1) with
        | false => rw [hc] at h; cases h
        | true =>
          rw [hc] at h
          simp only [cond_true, Option.some.injEq, Prod.mk.injEq] at h
          obtain ⟨rfl, rfl, rfl⟩ := h
          simp only [Bool.and_eq_true] at hc
          obtain ⟨⟨⟨h1, h2⟩, h3⟩, h4⟩ := hc
          have e1 := Nat.eq_of_beq_eq_true h1
          have e2 := Nat.le_of_ble_eq_true h2
          obtain ⟨b, us, hb, hh, hm⟩ := box_at hbx hk
          have hp := hρ x
          rw [hx] at hp
          obtain ⟨b', hb', he⟩ := hp
          rw [hb] at hb'
          injection hb' with hb'
          subst hb'
          have hv := cells_mean (nilTo_mean hE (t := t) (hρ y)) hy h4
          have l1 := hv.length
          have l2 := hm.length
          obtain ⟨ti, z, hti, hsz, _⟩ := (hE.tis _ _ (tinfo_mem hi)).info
          refine ⟨t', cs, b, us, (a.eval y).cells.toList, hk, hb, hh, hm, hv, by omega, fun K Q hK => ?_⟩
          have hst := run_storeCells_at (P := P) b off' t' (a.eval y).cells.toList 0 us.toArray w hh (by simp at l1 ⊢; omega) (all_cell1 hv h3)
          have hsv : (storeVar t ⟨b, off', none⟩ (a.eval y)).run P w = .ok () (w.setRow b (us.take off' ++ (a.eval y).cells.toList ++ us.drop (off' + (a.eval y).cells.toList.length)).toArray) := by
            have hsize : (a.eval y).cells.size = ti.size := by simp at l1; omega
            simp only [storeVar, sizeOf, typeInfo, Sem.run_bind, run_program, Result.andThen_ok, hti, Sem.run_pure, hsize, ne_eq, not_true, if_false, hst]
            simp
          unfold Oper.wp
          have hrun : (execOp a.eval ⟨dst, .store t x y, type, pos, after, guard⟩).run P w = .ok .skip (w.setRow b (us.take off' ++ (a.eval y).cells.toList ++ us.drop (off' + (a.eval y).cells.toList.length)).toArray) := by
            simp only [execOp, Instr.storeAt, he, Instr.sureAddr, Sem.run_bind, Sem.run_pure, Result.andThen_ok, hsv]
          rw [hrun]
          exact hK
      · cases h
    · cases h
  · cases h

end
end Go.Gm
