/-
  The frame of all proofs of this seat, part Ed: rows, whichever operation. Plain theorems; no condition.
-/
import Derived.Test.YtihmifpdnipdmaaCoreEc
set_option linter.all false
namespace Go.Gm
open Go.RowKit (Below)

section
variable {P : Program} {E : Env} {S : Nat → Prop} {bs : An} {bx : Bxs} {ρ : Operand → AV} {a : Act} {w : World}

theorem rwIs_of {s : SI} {r : Rw} (h : rwIs s r = true) : (∃ l, r = .n s.elem l ∧ s.esize = 1) ∨ (∃ l, r = .s s.elem s.esize l) ∨ (∃ n l, r = .ll s.elem n l ∧ s.esize = 1) := by
  cases r with
  | n e l =>
    simp only [rwIs, Bool.and_eq_true] at h
    have e1 := Nat.eq_of_beq_eq_true h.1
    exact .inl ⟨l, by rw [e1], Nat.eq_of_beq_eq_true h.2⟩
  | s e n l =>
    simp only [rwIs, Bool.and_eq_true] at h
    have e1 := Nat.eq_of_beq_eq_true h.1
    have e2 := Nat.eq_of_beq_eq_true h.2
    exact .inr (.inl ⟨l, by rw [e1, e2]⟩)
  | ll e n l =>
    simp only [rwIs, Bool.and_eq_true] at h
    have e1 := Nat.eq_of_beq_eq_true h.1
    exact .inr (.inr ⟨n, l, by rw [e1], Nat.eq_of_beq_eq_true h.2⟩)
  | dead => cases h

theorem set_flatten {α : Type} {n : Nat} {l : List (List α)} {us ws xs : List α} (hn : ∀ x, x ∈ l → x.length = n) (hl : l.flatten = us) (hx : xs.length = n) {j : Nat} (hj : j < l.length) (hws : xs = ws) : (l.set j xs).flatten = us.take (j * n) ++ ws ++ us.drop (j * n + n) := by
  subst hl
  subst hws
  induction l generalizing j with
  | nil => simp at hj
  | cons y l ih =>
    have hy := hn y (List.mem_cons_self ..)
    cases j with
    | zero =>
      simp only [List.set_cons_zero, List.flatten_cons, Nat.zero_mul, List.take_zero, List.nil_append, Nat.zero_add]
      rw [← hy, List.drop_left]
    | succ j =>
      simp only [List.set_cons_succ, List.flatten_cons]
      rw [ih (fun x h => hn x (List.mem_cons_of_mem _ h)) (by simpa using hj)]
      subst hy
      have e : (j + 1) * y.length = y.length + j * y.length := by rw [Nat.add_mul, Nat.one_mul]; omega
      have e2 : y.length + j * y.length + y.length = y.length + (j * y.length + y.length) := by omega
      rw [e, List.take_length_add_append, e2, List.drop_length_add_append]
      simp only [List.append_assoc]

theorem copy_ok (hE : E.Ok P) {t u ty : TypeId} {s : SI} (hs : tnil t E.nils = some s) (he1 : s.esize = 1) {e : TypeId} {l l2 : List Nat} {v : Value} {src : Value} (hr : (Rw.n e l).mean S w v) (hy : Rd S w l2 src) (hlen : l2.length = l.length) :
    ∃ w', (Builtin.copy_ #[t, u] ty #[v, src]).run P w = .ok (.int .i64 l2.length) w' ∧ (Rw.n e l2).mean (Lt S w) w' v ∧ w.grownBy w' v.ownBlock := by
  have ok := hE.nils _ _ (tnil_mem hs)
  obtain ⟨ti, z, hti, hsz, _⟩ := ok.size
  have hsz1 : (P.info? s.elem).map (fun i => i.size) = some 1 := by rw [hti]; simp [hsz, he1]
  obtain ⟨hl, hown⟩ := hr
  obtain ⟨ad, c, hv, hsrc⟩ := nat_src (S := S) hy
  rcases Nat.eq_zero_or_pos l.length with h0 | h0
  · have el : l = [] := List.eq_nil_of_length_eq_zero h0
    have el2 : l2 = [] := List.eq_nil_of_length_eq_zero (by omega)
    subst el
    subst el2
    refine ⟨w, ?_, ⟨hl, hown⟩, ⟨rfl, rfl, rfl, Nat.le_refl _, fun _ _ _ => rfl⟩⟩
    obtain ⟨ad', c', hv'⟩ := own_slice hown
    rw [hv', hv]
    cases ad <;> cases ad' <;> simp [Builtin.copy_, run_underlying ok.under, Builtin.lenOf, Builtin.firstCells, sizeOf, typeInfo, hti, storeCells, goInt, loadCells, loadCellsFrom]
  · obtain ⟨g, cap, cur, hvv, hg, htake, hncap, hcs⟩ := own_form hown h0
    rcases hsrc with ⟨_, h'⟩ | ⟨q, rfl, hq⟩
    · rw [h'] at hlen; simp at hlen; omega
    · rw [hv, hvv]
      have hfit : 0 + (l2.map fun (x : Nat) => Value.int .u32 (x : Int)).length ≤ cur.size := by simp; omega
      have hrun := run_copy_row (P := P) w t u ty s.elem g 0 l.length cap q l2.length c cur e (l2.map fun (x : Nat) => Value.int .u32 (x : Int)) ok.under hsz1 hg (by rw [List.length_map, hlen]; exact (Nat.min_self _).symm) hq hfit (fun v hv => by obtain ⟨x, _, rfl⟩ := List.mem_map.1 hv; rfl)
      have eg : goInt (((l2.map fun (x : Nat) => Value.int .u32 (x : Int)).length : Nat) : Int) = Value.int .i64 ((l2.length : Nat) : Int) := by simp [goInt]
      rw [eg] at hrun
      refine ⟨_, hrun, ⟨hy.1, ?_⟩, setRow_grown⟩
      refine ⟨by simp, .inr ⟨g, cap, _, by rw [hlen], Nat.zero_le _, setRow_heap w g cur _ e (0, 0) hg, by omega, ?_, ?_, ?_⟩⟩
      · rcases hown.2 with ⟨h0', _⟩ | ⟨g', cap', cur', hv', _, _, _, hmax, _⟩
        · rw [hvv] at h0'; cases h0'
        · rw [hvv] at hv'
          injection hv' with _ _ h3
          rw [h3]
          exact hmax
      · simp only [List.take_zero, List.nil_append, List.size_toArray, List.length_append, List.length_map, List.length_drop, Array.length_toList, hcs]
        omega
      · simp only [List.take_zero, List.nil_append, Nat.mul_one]
        rw [List.take_left' (by simp)]

theorem rowOut_ok (hE : E.Ok P) (hbx : Boxes S w bs bx) (hρ : ∀ x, (ρ x).mean S bs w (a.eval x)) (hS : ∀ k r v b, nth bx.r k = some r → bs.v[k]? = some v → r.isDead = false → S b → v.ownBlock ≠ some b)
    {o : Oper} {pre : Prop} {act : RowAct} (h : rowOut E bx ρ o.op = some (pre, act)) (hp : pre) : RowSays P o a w S bs bx act := by
  obtain ⟨dst, op, type, pos, after, guard⟩ := o
  simp only at h
  unfold rowOut at h
  split at h
  · -- make
    split at h
    · rename_i s m c hs hx hy
      split at h
      · rename_i l0 hz
        cases hc : Nat.beq s.esize 1 with
        | false => rw [hc] at h; cases h
        | true =>
          rw [hc] at h
          simp only [cond_true, Option.some.injEq, Prod.mk.injEq] at h
          obtain ⟨h1, rfl⟩ := h
          rw [← h1] at hp
          have e1 := Nat.eq_of_beq_eq_true hc
          obtain ⟨cur, hrun, hcs, zs, hzl, hzm, hcur⟩ := row_make (P := P) (dst := dst) (type := type) (pos := pos) (after := after) (guard := guard) hE hρ hs hx hy hp
          refine ⟨_, _, hrun, ⟨Lim.replicate _, ?_⟩, rfl, Ext.alloc w _, fun b hb => by injection hb with hb; exact Nat.le_of_eq hb⟩
          have hz0 := (hE.nils _ _ (tnil_mem hs)).ezn l0 hz
          have hzv : zs = [.int .u32 0] := by
            have := hzm S w
            rw [hz0] at this
            match zs, this with
            | [z], this => rw [show z = .int .u32 0 from this.1]
            | [], this => exact this.elim
            | _ :: _ :: _, this => exact this.2.elim
          rw [List.length_replicate]
          have := ownsRow_new (w := w) (e := s.elem) (size := 1) (n := m.toNat) (cap := c.toNat) (us := (List.replicate m.toNat 0).map fun (x : Nat) => Value.int .u32 (x : Int)) (cur := cur) (by simp) (by omega) (by omega) (by rw [hcs, e1]) (by
            rw [hcur, take_rep (by rw [hzl, e1]) (by omega), hzv]
            generalize m.toNat = q
            induction q with
            | zero => rfl
            | succ q ih => rw [List.replicate_succ, List.replicate_succ, List.flatten_cons, List.map_cons, ih]; rfl)
          exact this
      · rename_i n0 l0 hz
        cases hc : Nat.beq s.ezero.length s.esize with
        | false => rw [hc] at h; cases h
        | true =>
          rw [hc] at h
          simp only [cond_true, Option.some.injEq, Prod.mk.injEq] at h
          obtain ⟨h1, rfl⟩ := h
          rw [← h1] at hp
          have e1 := Nat.eq_of_beq_eq_true hc
          obtain ⟨cur, hrun, hcs, zs, hzl, hzm, hcur⟩ := row_make (P := P) (dst := dst) (type := type) (pos := pos) (after := after) (guard := guard) hE hρ hs hx hy hp
          have hz1 := (hE.nils _ _ (tnil_mem hs)).ez1
          refine ⟨_, _, hrun, ⟨(List.replicate m.toNat zs).flatten, ?_, ?_, rep_mean (hzm _ _) _, ?_⟩, rfl, Ext.alloc w _, fun b hb => by injection hb with hb; exact Nat.le_of_eq hb⟩
          · rw [List.length_replicate]
            exact ownsRow_new (by
              have := flatten_len (l := List.replicate m.toNat zs) (n := s.esize) (fun x h => by rw [(List.mem_replicate.1 h).2]; exact hzl)
              simpa using this) (by omega) (by omega) hcs (by rw [hcur, take_rep hzl (by omega)])
          · intro u hu
            obtain ⟨q, hq1, hq2⟩ := List.mem_flatten.1 hu
            rw [(List.mem_replicate.1 hq1).2] at hq2
            exact all_cell1 (bvs_mean (hzm S w)) hz1 u hq2
          · intro x hx
            rw [(List.mem_replicate.1 hx).2]
            exact e1
      · cases h
    · cases h
  · -- buildSlice
    split at h
    · rename_i s hs
      split at h
      · split at h
        · rename_i xs hl
          cases hc : (Nat.beq xs.length _ && Nat.beq s.esize 1 && Nat.ble _ 1000 && Nat.blt 0 _) with
          | false => rw [hc] at h; cases h
          | true =>
            rw [hc] at h
            simp only [cond_true, Option.some.injEq, Prod.mk.injEq] at h
            obtain ⟨h1, rfl⟩ := h
            rw [← h1] at hp
            obtain ⟨_, hrun, hn, hlim⟩ := do_buildN (P := P) (dst := dst) (type := type) (pos := pos) (after := after) (guard := guard) hE hρ hs hl hc hp
            refine ⟨_, _, hrun, ⟨hlim, ?_⟩, rfl, Ext.alloc w _, fun b hb => by injection hb with hb; exact Nat.le_of_eq hb⟩
            rw [List.length_map, ← hn]
            simp only [Bool.and_eq_true] at hc
            have e2 := Nat.le_of_ble_eq_true hc.1.2
            exact ownsRow_new (by simp [hn]) (Nat.le_refl _) (by omega) (by simp [hn]) (by rw [List.take_of_length_le (by simp [hn])])
        · cases h
      · split at h
        · rename_i l hl
          cases hc : (Nat.beq l.length _ && Nat.ble (_ * s.esize) 1000 && Nat.blt 0 _) with
          | false => rw [hc] at h; cases h
          | true =>
            rw [hc] at h
            simp only [cond_true, Option.some.injEq, Prod.mk.injEq] at h
            obtain ⟨h1, rfl⟩ := h
            obtain ⟨_, us, hrun, hn, hc1, hm, hall⟩ := do_buildS (P := P) (dst := dst) (type := type) (pos := pos) (after := after) (guard := guard) hE hρ hs hl hc
            have K : Keeps S (Lt S w) w (w.alloc (.cells us.toArray s.elem)) := (Ext.alloc w _).keepsTo fun b hb hlt => ⟨hb, hlt⟩
            refine ⟨_, _, hrun, ⟨us, ?_, hc1, hm.imp fun _ _ h => h.keep K, hall⟩, rfl, Ext.alloc w _, fun b hb => by injection hb with hb; exact Nat.le_of_eq hb⟩
            have hul : us.length = l.length * s.esize := by rw [← hm.length, flatten_len hall]
            rw [← hn]
            simp only [Bool.and_eq_true] at hc
            have e2 := Nat.le_of_ble_eq_true hc.1.2
            have hpos := (hE.nils _ _ (tnil_mem hs)).pos
            refine ownsRow_new (by rw [hul, hn]) (Nat.le_refl _) ?_ (by simp [hul, hn]) (by rw [List.take_of_length_le (by simp [hul, hn])])
            have := Nat.le_mul_of_pos_right (l.length) hpos
            rw [← hn] at this
            omega
        · cases h
      · split at h
        · rename_i l hl
          cases hc : (Nat.beq l.length _ && Nat.beq s.esize 1 && Nat.ble _ 1000 && Nat.blt 0 _) with
          | false => rw [hc] at h; cases h
          | true =>
            rw [hc] at h
            simp only [cond_true, Option.some.injEq, Prod.mk.injEq] at h
            obtain ⟨h1, rfl⟩ := h
            obtain ⟨_, us, hrun, hn, hm⟩ := do_buildL (P := P) (dst := dst) (type := type) (pos := pos) (after := after) (guard := guard) hE hρ hs hl hc
            have K : Keeps S (Lt S w) w (w.alloc (.cells us.toArray s.elem)) := (Ext.alloc w _).keepsTo fun b hb hlt => ⟨hb, hlt⟩
            refine ⟨_, _, hrun, ⟨us, ?_, hm.imp fun _ _ h => h.keep K⟩, rfl, Ext.alloc w _, fun b hb => by injection hb with hb; exact Nat.le_of_eq hb⟩
            have hul : us.length = l.length := hm.length.symm
            rw [← hn]
            simp only [Bool.and_eq_true] at hc
            have e2 := Nat.le_of_ble_eq_true hc.1.2
            exact ownsRow_new (by simp [hul, hn]) (Nat.le_refl _) (by omega) (by simp [hul, hn]) (by rw [List.take_of_length_le (by simp [hul, hn])])
        · cases h
      · cases h
    · cases h
  · -- append
    rename_i args argTypes
    split at h
    · rename_i x y t u hx hy
      have e1 : args = #[x, y] := by apply Array.ext'; simpa using hx
      have e2 : argTypes = #[t, u] := by apply Array.ext'; simpa using hy
      subst e1
      subst e2
      cases htu : Nat.beq t u with
      | false => rw [htu] at h; cases h
      | true =>
        rw [htu] at h
        have etu := Nat.eq_of_beq_eq_true htu
        subst etu
        simp only [cond_true] at h
        split at h
        · rename_i s hs
          have hexec : ∀ v' w', (Builtin.append_ #[t, t] type #[a.eval x, a.eval y]).run P w = .ok v' w' → (execOp a.eval ⟨dst, .call { callee := .builtin .append, args := #[x, y], argTypes := #[t, t] }, type, pos, after, guard⟩).run P w = .ok (.value v') w' := by
            intro v' w' hr
            simp only [execOp, resolve, invoke, builtin, Sem.run_bind, Sem.run_pure, Result.andThen_ok, List.map_toArray, List.map_cons, List.map_nil, hr]
          split at h
          · rename_i k hk
            split at h
            · rename_i r hr
              cases hrw : rwIs s r with
              | false => rw [hrw] at h; cases h
              | true =>
                rw [hrw] at h
                simp only [cond_true] at h
                split at h
                · rename_i pre' r' happ
                  simp only [Option.some.injEq, Prod.mk.injEq] at h
                  obtain ⟨h1, rfl⟩ := h
                  rw [← h1] at hp
                  have hm := hρ x
                  rw [hk] at hm
                  have hm' : bs.v[k]? = some (a.eval x) := hm
                  obtain ⟨v, hv, hmean⟩ := row_at hbx hr
                  rw [hm'] at hv
                  injection hv with hv
                  subst hv
                  have hlive : r.isDead = false := by cases r <;> first | rfl | cases hrw
                  obtain ⟨v', w', g1, g2, g3, g4, g5, _⟩ := appRw_ok (P := P) (ty := type) hE hs hmean (rwIs_of hrw) (fun b hb => hS k r _ b hr hm' hlive hb) (nilTo_mean hE (hρ y)) happ hp
                  exact ⟨r, a.eval x, v', w', hr, hm', hlive, hexec _ _ g1, g2, g5, g3, g4⟩
                · cases h
            · cases h
          · rename_i hk
            split at h
            · rename_i r hr
              split at h
              · rename_i pre' r' happ
                simp only [Option.some.injEq, Prod.mk.injEq] at h
                obtain ⟨h1, rfl⟩ := h
                rw [← h1] at hp
                have hx' : a.eval x = .slice none 0 0 := val_mean (hρ x) hk
                have hnil : ∀ e size, w.ownsRow 0 e size (.slice none 0 0) 0 [] := fun e size => ⟨by simp, .inl ⟨rfl, rfl⟩⟩
                have hmean : r.mean S w (.slice none 0 0) ∧ ((∃ l, r = .n s.elem l ∧ s.esize = 1) ∨ (∃ l, r = .s s.elem s.esize l) ∨ (∃ n l, r = .ll s.elem n l ∧ s.esize = 1)) := by
                  unfold nilRw at hr
                  split at hr
                  · cases hc : Nat.beq s.esize 1 with
                    | false => rw [hc] at hr; cases hr
                    | true =>
                      rw [hc] at hr
                      injection hr with hr
                      subst hr
                      exact ⟨⟨Lim.nil, hnil _ _⟩, .inl ⟨_, rfl, Nat.eq_of_beq_eq_true hc⟩⟩
                  · injection hr with hr
                    subst hr
                    exact ⟨⟨[], hnil _ _, (fun u hu => by cases hu), trivial, (fun x hx => by cases hx)⟩, .inr (.inl ⟨_, rfl⟩)⟩
                  · cases hc : Nat.beq s.esize 1 with
                    | false => rw [hc] at hr; cases hr
                    | true =>
                      rw [hc] at hr
                      injection hr with hr
                      subst hr
                      exact ⟨⟨[], hnil _ _, trivial⟩, .inr (.inr ⟨_, _, rfl, Nat.eq_of_beq_eq_true hc⟩)⟩
                  · cases hr
                obtain ⟨v', w', g1, g2, g3, g4, g5, _⟩ := appRw_ok (P := P) (ty := type) hE hs hmean.1 hmean.2 (fun b _ hb => by cases hb) (nilTo_mean hE (hρ y)) happ hp
                rw [← hx'] at g1
                refine ⟨v', w', hexec _ _ g1, g2, g5, grown_ext g3, fun b hb => ?_⟩
                rcases g4 with g4 | g4
                · rw [g4] at hb; cases hb
                · rw [g4] at hb; injection hb with hb; omega
              · cases h
            · cases h
          · cases h
        · cases h
    · cases h
  · -- copy
    rename_i args argTypes
    split at h
    · rename_i x y t u hx hy
      have e1 : args = #[x, y] := by apply Array.ext'; simpa using hx
      have e2 : argTypes = #[t, u] := by apply Array.ext'; simpa using hy
      subst e1
      subst e2
      split at h
      · rename_i s k l2 hs hk hl2
        split at h
        · rename_i e l hr
          cases hc : Nat.beq s.esize 1 with
          | false => rw [hc] at h; cases h
          | true =>
            rw [hc] at h
            simp only [cond_true, Option.some.injEq, Prod.mk.injEq] at h
            obtain ⟨h1, rfl⟩ := h
            rw [← h1] at hp
            have hm := hρ x
            rw [hk] at hm
            have hm' : bs.v[k]? = some (a.eval x) := hm
            obtain ⟨v, hv, hmean⟩ := row_at hbx hr
            rw [hm'] at hv
            injection hv with hv
            subst hv
            have hsrc := nilTo_mean hE (t := u) (hρ y)
            rw [hl2] at hsrc
            obtain ⟨w', g1, g2, g3⟩ := copy_ok (P := P) (t := t) (u := u) (ty := type) hE hs (Nat.eq_of_beq_eq_true hc) hmean hsrc hp
            refine ⟨_, _, w', hr, hm', rfl, ?_, g2, rfl, g3⟩
            simp only [execOp, resolve, invoke, builtin, Sem.run_bind, Sem.run_pure, Result.andThen_ok, List.map_toArray, List.map_cons, List.map_nil, g1]
        · cases h
      · cases h
    · cases h
  · -- a call that changes a part of a row, or looks into a row
    rename_i f args argTypes
    split at h
    · split at h
      · rename_i x y t u hx hy
        have e1 : args = #[x, y] := by apply Array.ext'; simpa using hx
        have e2 : argTypes = #[t, u] := by apply Array.ext'; simpa using hy
        subst e1
        subst e2
        split at h
        · rename_i k i hk hi
          split at h
          · rename_i e l hr
            split at h
            · rename_i pre' v hf
              simp only [Option.some.injEq, Prod.mk.injEq] at h
              obtain ⟨h1, rfl⟩ := h
              rw [← h1] at hp
              obtain ⟨sp, hmem, hs⟩ := findK_mem hf
              obtain ⟨hv, fn, hfn, hbody, hname⟩ := hE.K _ _ hmem
              have hm := hρ x
              rw [hk] at hm
              have hb : bs.v[k]? = some (a.eval x) := hm
              obtain ⟨v0, hv0, hmean⟩ := row_at hbx hr
              rw [hb] at hv0
              injection hv0 with hv0
              subst hv0
              have hiv := val_mean (hρ y) hi
              have hrd : Rd (fun _ => True) w l (a.eval x) := Rw.cv_mean (A := fun _ => True) hmean rfl (fun _ _ _ => trivial) (fun _ _ => trivial)
              have hc := hv l i _ v hs hp (fun _ => True) w (a.eval x) hrd
              refine ⟨_, _, hr, hb, rfl, rfl, fun KK Q hK => ?_⟩
              have hname' : ¬ fn.name = "runtime.NumGoroutine" := by simpa using hname
              have hbody' : ¬ fn.body = none := by intro h; rw [h] at hbody; cases hbody
              have hrun : (execOp a.eval ⟨dst, .call { callee := .value (.func f), args := #[x, y], argTypes := #[t, u] }, type, pos, after, guard⟩).run P w = .ok (.enter f #[a.eval x, a.eval y]) w := by
                simp [execOp, resolve, invoke, Act.eval, Deferred.ofValue, callFunc, hfn, hbody', hname']
              unfold Oper.wp
              rw [hrun, hiv]
              refine hc.mono ?_
              rintro en w' ⟨rfl, he⟩
              refine hK w' (hmean.keep (S' := Lt S w) ⟨he.size, fun b hb hlt => ⟨⟨hb, hlt⟩, he.block b hlt⟩⟩ (fun b _ hlt => he.block b hlt)) ⟨he.os, he.tape, he.output, he.size, fun b hlt _ => he.block b hlt⟩
            · cases h
          · cases h
        · cases h
      · cases h
    · split at h
      · cases h
      · split at h
        · rename_i x y t u hx hy
          have e1 : args = #[x, y] := by apply Array.ext'; simpa using hx
          have e2 : argTypes = #[t, u] := by apply Array.ext'; simpa using hy
          subst e1
          subst e2
          split at h
          · rename_i k lo n o lv hk hlv
            split at h
            · rename_i e l hr
              split at h
              · rename_i pre' l' q hf
                simp only [Option.some.injEq, Prod.mk.injEq] at h
                obtain ⟨h1, rfl⟩ := h
                rw [← h1] at hp
                obtain ⟨sp, hmem, hs⟩ := findD_mem hf
                obtain ⟨hv, fn, hfn, hbody, hname⟩ := hE.D _ _ hmem
                have hm := hρ x
                rw [hk] at hm
                obtain ⟨b, N, c, c', hb, ⟨hvx, hnc⟩, _⟩ := hm
                obtain ⟨v0, hv0, hmean⟩ := row_at hbx hr
                rw [hb] at hv0
                injection hv0 with hv0
                subst hv0
                have hy' := nilTo_mean hE (t := u) (hρ y)
                rw [hlv] at hy'
                have hnS : ¬ S b := fun hb' => hS k _ _ b hr hb rfl hb' rfl
                have hc := hv l lo n lv _ l' q hs hp S w e b N c c' (a.eval y) hmean.1 hmean.2 hnc hy' hnS
                refine ⟨_, _, hr, hb, rfl, rfl, fun KK Q hK => ?_⟩
                have hname' : ¬ fn.name = "runtime.NumGoroutine" := by simpa using hname
                have hbody' : ¬ fn.body = none := by intro h; rw [h] at hbody; cases hbody
                have hrun : (execOp a.eval ⟨dst, .call { callee := .value (.func f), args := #[x, y], argTypes := #[t, u] }, type, pos, after, guard⟩).run P w = .ok (.enter f #[a.eval x, a.eval y]) w := by
                  simp [execOp, resolve, invoke, Act.eval, Deferred.ofValue, callFunc, hfn, hbody', hname']
                unfold Oper.wp
                rw [hrun, hvx]
                refine hc.mono ?_
                rintro en w' ⟨rfl, g1, g2, g3⟩
                exact hK w' ⟨g1, g2⟩ g3
              · cases h
            · cases h
          · cases h
        · cases h
  · -- store
    rename_i t x y
    split at h
    · rename_i i k sz j hi hx
      split at h
      · rename_i e l hr
        split at h
        · rename_i v hy
          cases hc : (Nat.beq sz 1 && Nat.beq i.size 1) with
          | false => rw [hc] at h; cases h
          | true =>
            rw [hc] at h
            simp only [cond_true, Option.some.injEq, Prod.mk.injEq] at h
            obtain ⟨h1, rfl⟩ := h
            rw [← h1] at hp
            simp only [Bool.and_eq_true] at hc
            have e1 := Nat.eq_of_beq_eq_true hc.1
            have e2 := Nat.eq_of_beq_eq_true hc.2
            subst e1
            have hyv := val_mean (hρ y) hy
            obtain ⟨v0, hv0, hmean⟩ := row_at hbx hr
            obtain ⟨v1, w', g1, g2, g3, g4⟩ := row_store (P := P) (dst := dst) (type := type) (pos := pos) (after := after) (guard := guard) (y := y) hE hρ hi hx (e := e) (n := l.length) (us := l.map fun (x : Nat) => Value.int .u32 (x : Int)) (ws := [.int .u32 v]) (fun q hq => by
              rw [hv0] at hq; injection hq with hq; subst hq; exact hmean.2) hp.1 (by rw [hyv]; rfl) rfl e2 (fun q hq => by simp only [List.mem_singleton] at hq; subst hq; rfl)
            refine ⟨_, v1, w', hr, g1, rfl, g2, ⟨hmean.1.set _ (by rw [B_eq]; omega), ?_⟩, rfl, g4⟩
            have : (l.set j v.toNat).map (fun (x : Nat) => Value.int .u32 (x : Int)) = (l.map fun (x : Nat) => Value.int .u32 (x : Int)).take (j * 1) ++ [.int .u32 v] ++ (l.map fun (x : Nat) => Value.int .u32 (x : Int)).drop (j * 1 + 1) := by
              rw [List.map_set, Nat.mul_one, Int.toNat_of_nonneg hp.2.1]
              rw [List.set_eq_take_append_cons_drop, if_pos (by simpa using hp.1)]
              simp
            rw [this, List.length_set]
            exact g3
        · cases h
      · rename_i e n l hr
        split at h
        · rename_i cs hcs
          split at h
          · rename_i xs hxs
            cases hc : (Nat.beq sz n && Nat.beq i.size n && Nat.beq xs.length n && cs.all CV.cell1 && (nilTo E t (ρ y)).cell1) with
            | false => rw [hc] at h; cases h
            | true =>
              rw [hc] at h
              simp only [cond_true, Option.some.injEq, Prod.mk.injEq] at h
              obtain ⟨h1, rfl⟩ := h
              rw [← h1] at hp
              simp only [Bool.and_eq_true] at hc
              obtain ⟨⟨⟨⟨c1, c2⟩, c3⟩, c4⟩, c5⟩ := hc
              have e1 := Nat.eq_of_beq_eq_true c1
              have e2 := Nat.eq_of_beq_eq_true c2
              have e3 := Nat.eq_of_beq_eq_true c3
              subst e1
              have hcm := cells_mean (nilTo_mean hE (t := t) (hρ y)) hcs c5
              have hbm := toBVs_mean hxs hcm
              have hall1 := all_cell1 hcm c4
              obtain ⟨v0, hv0, hmean⟩ := row_at hbx hr
              obtain ⟨us, ho, h1c, hmu, hn⟩ := hmean
              obtain ⟨v1, w', g1, g2, g3, g4⟩ := row_store (P := P) (dst := dst) (type := type) (pos := pos) (after := after) (guard := guard) (y := y) hE hρ hi hx (e := e) (n := l.length) (us := us) (ws := (a.eval y).cells.toList) (fun q hq => by
                rw [hv0] at hq; injection hq with hq; subst hq; exact ho) hp rfl (by rw [← hbm.length]; exact e3) e2 hall1
              have K := grown_keeps g4 (fun b hb => hS k _ v1 b hr g1 rfl hb)
              refine ⟨_, v1, w', hr, g1, rfl, g2, ⟨us.take (j * sz) ++ (a.eval y).cells.toList ++ us.drop (j * sz + sz), ?_, ?_, ?_, ?_⟩, rfl, g4⟩
              · rw [List.length_set]; exact g3
              · intro u hu
                rcases List.mem_append.1 hu with hu | hu
                · rcases List.mem_append.1 hu with hu | hu
                  · exact h1c u (List.mem_of_mem_take hu)
                  · exact hall1 u hu
                · exact h1c u (List.mem_of_mem_drop hu)
              · rw [set_flatten hn rfl e3 hp rfl]
                have hmu' := hmu.imp fun _ _ h => BV.mean.keep h K
                exact ((hmu'.take _).append (hbm.imp fun _ _ h => BV.mean.keep h K)).append (hmu'.drop _)
              · intro x hx
                rcases List.mem_or_eq_of_mem_set hx with hx | rfl
                · exact hn x hx
                · exact e3
          · cases h
        · cases h
      · cases h
    · cases h
  · cases h

end
end Go.Gm
