/-
  The frame of all proofs of this seat, part D: operation by operation. Plain theorems; no condition.
-/
import Derived.Test.YtihmifpdnipdmaaCoreC
set_option linter.all false
namespace Go.Gm
open Go.RowKit (Below)

section
variable {P : Program} {E : Env} {S : Nat → Prop} {bs : An} {bx : Bxs} {ρ : Operand → AV} {a : Act} {w : World}

variable {dst : Option Tmp} {type : TypeId} {pos : String} {after : Array Edge} {guard : Option (Nat × Bool)}

theorem val_mean {x : AV} {u v : Value} (hx : x.mean S bs w v) (e : x = .val u) : v = u := by subst e; exact hx

theorem do_move (hρ : ∀ x, (ρ x).mean S bs w (a.eval x)) (x : Operand) :
    Says P ⟨dst, .move x, type, pos, after, guard⟩ a w (Fits S bs w (ρ x)) :=
  says_value (v := a.eval x) (w' := w) (by simp [execOp]) (fits_pure (hρ x))

theorem do_assign (hρ : ∀ x, (ρ x).mean S bs w (a.eval x)) (x : Operand) :
    Says P ⟨dst, .assign x, type, pos, after, guard⟩ a w (Fits S bs w (ρ x)) :=
  says_value (v := a.eval x) (w' := w) (by simp [execOp]) (fits_pure (hρ x))

theorem do_pick (hρ : ∀ x, (ρ x).mean S bs w (a.eval x)) (c x y : Operand) (t : Bool) (hc : ρ c = .val (.bool t)) :
    Says P ⟨dst, .pick c x y, type, pos, after, guard⟩ a w (Fits S bs w (match t with | true => ρ x | false => ρ y)) := by
  have hv := val_mean (hρ c) hc
  cases t
  · exact says_value (v := a.eval y) (w' := w) (by simp [execOp, hv, asBool]) (fits_pure (hρ y))
  · exact says_value (v := a.eval x) (w' := w) (by simp [execOp, hv, asBool]) (fits_pure (hρ x))

theorem do_load_ptr (hE : E.Ok P) (hbx : Boxes S w bs bx) (hρ : ∀ x, (ρ x).mean S bs w (a.eval x)) {t : TypeId} {x : Operand} {i : TI} (hi : tinfo t E.tis = some i) {k off : Nat} (hx : ρ x = .ptr k off)
    {u : TypeId} {cs : List CV} (hk : nth bx.b k = some (u, cs)) {v : AV} (hv : mkAV i ((cs.drop off).take i.size) = some v) (hl : Nat.ble (off + i.size) cs.length = true) :
    Says P ⟨dst, .load t x, type, pos, after, guard⟩ a w (Fits S bs w v) := by
  have h := hρ x
  rw [hx] at h
  obtain ⟨b, hb, he⟩ := h
  obtain ⟨b', us, hb', hh, hm⟩ := box_at hbx hk
  rw [hb] at hb'
  injection hb' with hb'
  subst hb'
  have hlen := hm.length
  have hl' := Nat.le_of_ble_eq_true hl
  have hca : CellsAt w b off ((us.drop off).take i.size) := by
    have := ((cellsAt_of_heap hh).drop off).take i.size
    simpa using this
  obtain ⟨r, hr, hrm⟩ := load_at (bs := bs) hE hi hca ((hm.drop off).take i.size) (by simp; omega) hv
  exact says_value (v := r) (w' := w) (by simp [execOp, Instr.loadAt, he, Instr.sureAddr, hr]) (fits_pure hrm)

theorem do_load_elem (hE : E.Ok P) (hρ : ∀ x, (ρ x).mean S bs w (a.eval x)) {t : TypeId} {x : Operand} {i : TI} (hi : tinfo t E.tis = some i) {cs : List CV} (hx : ρ x = .elem cs)
    {v : AV} (hv : mkAV i (cs.take i.size) = some v) (hl : Nat.ble i.size cs.length = true) :
    Says P ⟨dst, .load t x, type, pos, after, guard⟩ a w (Fits S bs w v) := by
  have h := hρ x
  rw [hx] at h
  obtain ⟨b, off, us, he, hs, hb, hm, hc⟩ := h
  have hlen := hm.length
  have hl' := Nat.le_of_ble_eq_true hl
  obtain ⟨r, hr, hrm⟩ := load_at (bs := bs) hE hi (hc.take i.size) (hm.take i.size) (by simp; omega) hv
  exact says_value (v := r) (w' := w) (by simp [execOp, Instr.loadAt, he, Instr.sureAddr, hr]) (fits_pure hrm)

theorem do_fieldAddr (hE : E.Ok P) (hρ : ∀ x, (ρ x).mean S bs w (a.eval x)) {t : TypeId} {x : Operand} {f : Nat} {i : TI} (hi : tinfo t E.tis = some i) {o n : Nat} (hf : nth i.fields f = some (o, n)) (ha : i.isArr = false) (hg : i.isAgg = true)
    {v : AV} (hv : (∃ k off, ρ x = .ptr k off ∧ v = .ptr k (off + o)) ∨ (∃ cs, ρ x = .elem cs ∧ v = .elem (cs.drop o))) :
    Says P ⟨dst, .fieldAddr t x f, type, pos, after, guard⟩ a w (Fits S bs w v) := by
  have ok := hE.tis _ _ (tinfo_mem hi)
  obtain ⟨d, hd, hk⟩ := ok.under
  have hun : (underlying t).run P w = .ok d w := run_underlying hd w
  rw [nth_eq] at hf
  have hst : ∃ fs : Array Field, d = .struct fs ∧ ∃ fl, fs[f]? = some fl ∧ fl.offset = o ∧ ∃ ti, P.info? fl.type = some ti ∧ ti.size ≠ 0 := by
    cases d <;> simp only [ha, hg] at hk
    case struct fs =>
      obtain ⟨_, _, hlen, hall⟩ := hk
      have hlt : f < fs.size := by rw [← hlen]; exact (List.getElem?_eq_some_iff.1 hf).1
      obtain ⟨h1, h2⟩ := hall f fs[f] (by simp [hlt])
      rw [hf] at h1
      refine ⟨fs, rfl, fs[f], by simp [hlt], ?_⟩
      cases hti : P.info? fs[f].type with
      | none => rw [hti] at h1; cases h1
      | some ti =>
        rw [hti] at h1
        simp only [Option.map_some, Option.some.injEq, Prod.mk.injEq] at h1
        exact ⟨h1.1, ti, rfl, by rw [h1.2]; exact h2 _ hf⟩
    all_goals (first | (cases hk.1; done) | (cases hk.2.1; done))
  obtain ⟨fs, rfl, fl, hfl, hoff, ti, hti, hnz⟩ := hst
  have hrun : ∀ b off, a.eval x = .pointer (some ⟨b, off, none⟩) → (execOp a.eval ⟨dst, .fieldAddr t x f, type, pos, after, guard⟩).run P w = .ok (.value (.pointer (some ⟨b, off + o, none⟩))) w := by
    intro b off he
    simp [execOp, Instr.fieldAt, hun, hfl, he, Instr.sureAddr, fieldPlace, sizeOf, typeInfo, hti, hnz, hoff, add_at]
  rcases hv with ⟨k, off, hx, rfl⟩ | ⟨cs, hx, rfl⟩
  · have h := hρ x
    rw [hx] at h
    obtain ⟨b, hb, he⟩ := h
    exact says_value (hrun b off he) (fits_pure ⟨b, hb, rfl⟩)
  · have h := hρ x
    rw [hx] at h
    obtain ⟨b, off, us, he, hs, hb, hm, hc⟩ := h
    exact says_value (hrun b off he) (fits_pure ⟨b, off + o, us.drop o, rfl, hs, hb, hm.drop o, hc.drop o⟩)

theorem do_build (hE : E.Ok P) (hρ : ∀ x, (ρ x).mean S bs w (a.eval x)) {t : TypeId} {ps : Array (Nat × Operand)} {i : TI} (hi : tinfo t E.tis = some i) (ha : i.isArr = false) (hg : i.isAgg = true) {cs : List CV}
    (hf : fillA i.fields i.zero (ps.toList.map fun p => (p.1, nilTo E 0 (ρ p.2))) = some cs) :
    Says P ⟨dst, .build t ps, type, pos, after, guard⟩ a w (Fits S bs w (.agg cs)) := by
  have ok := hE.tis _ _ (tinfo_mem hi)
  obtain ⟨d, hd, hk⟩ := ok.under
  obtain ⟨ti, z, hti, hsz, hz, hzl, hzm⟩ := ok.info
  have hun : (underlying t).run P w = .ok d w := run_underlying hd w
  have hst : ∃ fs : Array Field, d = .struct fs ∧ i.fields.length = fs.size ∧ ∀ (j : Nat) (f : Field), fs[j]? = some f → (P.info? f.type).map (fun ti => (f.offset, ti.size)) = i.fields[j]? := by
    cases d <;> simp only [ha, hg] at hk
    case struct fs => exact ⟨fs, rfl, hk.2.2.1, fun j f hj => (hk.2.2.2 j f hj).1⟩
    all_goals (first | (cases hk.1; done) | (cases hk.2.1; done))
  obtain ⟨fs, rfl, hlen, hall⟩ := hst
  have hplaces : ∀ (l : List Field) (n : Nat), (∀ (j : Nat) (f : Field), l[j]? = some f → (P.info? f.type).map (fun ti => (f.offset, ti.size)) = i.fields[n + j]?) → n + l.length ≤ i.fields.length →
      (l.mapM (fun f => do pure (f.offset, ← sizeOf f.type) : Field → Sem (Nat × Nat))).run P w = .ok ((i.fields.drop n).take l.length) w := by
    intro l
    induction l with
    | nil => intro n _ _; simp
    | cons f l ih =>
      intro n h hle
      have h0 := h 0 f rfl
      simp only [List.length_cons] at hle
      have hlt : n < i.fields.length := by omega
      simp only [Nat.add_zero] at h0
      rw [List.getElem?_eq_getElem hlt] at h0
      cases hfi : P.info? f.type with
      | none => rw [hfi] at h0; cases h0
      | some tf =>
        rw [hfi] at h0
        simp only [Option.map_some, Option.some.injEq] at h0
        have ih' := ih (n + 1) (fun j g hj => by have := h (j + 1) g (by simpa using hj); rwa [show n + (j + 1) = n + 1 + j by omega] at this) (by omega)
        simp only [List.mapM_cons, Sem.run_bind, sizeOf, typeInfo, run_program, Result.andThen_ok, hfi, Sem.run_pure]
        have ih2 := ih'
        simp only [sizeOf, typeInfo] at ih2
        rw [ih2]
        simp only [Result.andThen_ok]
        rw [List.drop_eq_getElem_cons hlt, List.length_cons, List.take_succ_cons, ← h0]
  have hpl : (fs.mapM (fun f => do pure (f.offset, ← sizeOf f.type) : Field → Sem (Nat × Nat))).run P w = .ok i.fields.toArray w := by
    rw [Array.mapM_eq_mapM_toList]
    have := hplaces fs.toList 0 (fun j f hj => by rw [Nat.zero_add]; exact hall j f (by simpa using hj)) (by simp; omega)
    simp only [Sem.run_map, this, Result.andThen_ok]
    have e : (List.take fs.toList.length (List.drop 0 i.fields)) = i.fields := by simp [← hlen]
    rw [e]
  have hparts : All2 (fun (p : Nat × AV) (q : Nat × Value) => p.1 = q.1 ∧ p.2.mean S bs w q.2) (ps.toList.map fun p => (p.1, nilTo E 0 (ρ p.2))) (ps.toList.map fun p => (p.1, a.eval p.2)) := by
    generalize ps.toList = l
    induction l with
    | nil => trivial
    | cons p l ih => exact ⟨⟨rfl, nilTo_mean hE (hρ p.2)⟩, ih⟩
  obtain ⟨fin, hfin, hm⟩ := fill_mean i.fields (i.fields.toArray[·]?) (fun j => by simp) _ _ i.zero z.cells cs hparts (hzm S w) hf
  have hpe : (ps.map fun (x : Nat × Operand) => (x.1, a.eval x.2)).toList = ps.toList.map fun p => (p.1, a.eval p.2) := by simp
  refine says_value (v := .agg fin) (w' := w) ?_ (fits_pure ⟨fin.toList, by simp, hm⟩)
  have hrun : (Instr.build t (ps.map fun (x : Nat × Operand) => (x.1, a.eval x.2))).run P w = .ok (.agg fin) w := by
    simp only [Instr.build, zeroValue, typeInfo, Sem.run_bind, run_program, Result.andThen_ok, hti, Sem.run_pure, hz, hun, hpl, hpe, hfin]
  simp only [execOp, Sem.run_bind, Sem.run_pure]
  rw [hrun]
  rfl

theorem do_extract (hρ : ∀ x, (ρ x).mean S bs w (a.eval x)) {x : Operand} {n : Nat} {l : List RV} (hx : ρ x = .tup l) {y : RV} (hy : nth l n = some y) :
    Says P ⟨dst, .extract x n, type, pos, after, guard⟩ a w (Fits S bs w (.r y)) := by
  have h := hρ x
  rw [hx] at h
  obtain ⟨vs, he, hm⟩ := h
  rw [nth_eq] at hy
  obtain ⟨v, hv, hvm⟩ := hm.get hy
  exact says_value (v := v) (w' := w) (by simp [execOp, Instr.extract, he, hv]) (fits_pure hvm)

theorem args_mean (hE : E.Ok P) (hρ : ∀ x, (ρ x).mean S bs w (a.eval x)) : ∀ (l : List Operand) (ts : List TypeId) (ys : List RV), l.length = ts.length → toRVs ((l.zip ts).map fun p => nilTo E p.2 (ρ p.1)) = some ys → All2 (RV.mean S w) ys (l.map a.eval) := by
  intro l
  induction l with
  | nil => intro ts ys _ h; simp [toRVs] at h; subst h; trivial
  | cons x l ih =>
    intro ts ys hl h
    cases ts with
    | nil => cases hl
    | cons t ts =>
      simp only [List.zip_cons_cons, List.map_cons, toRVs] at h
      split at h
      · rename_i y ys' hy hys'
        injection h with h
        subst h
        refine ⟨?_, ih ts ys' (by simpa using hl) hys'⟩
        have hm := nilTo_mean hE (t := t) (hρ x)
        cases hz : nilTo E t (ρ x) <;> rw [hz] at hy hm <;> simp [toRV] at hy
        subst hy
        exact hm
      · cases h

/-- A call that gives a row. -/
def makeOut (E : Env) (ρ : Operand → AV) (o : Oper) : Option (Prop × TypeId × List Nat) := match E.M with
  | [] => none
  | _ :: _ => (match o.op, o.dst with
    | .call { callee := .value (.func f), args, argTypes }, some d => (match toRVs ((args.toList.zip argTypes.toList).map fun p => nilTo E p.2 (ρ p.1)), Nat.beq args.size argTypes.size with
      | some xs, true => findM f d E.M xs
      | _, _ => none)
    | _, _ => none)

theorem makeOut_ok (hE : E.Ok P) (hρ : ∀ x, (ρ x).mean S bs w (a.eval x)) {o : Oper} {pre : Prop} {e : TypeId} {l : List Nat} (h : makeOut E ρ o = some (pre, e, l)) (hp : pre) (KK : Act → World → Prop) (Q : Exit → Act → World → Prop)
    (hK : ∀ v w', Ext w w' → (AV.freshN e l).mean S bs w' v → (∀ b, v.ownBlock = some b → w.heap.size ≤ b) → KK (a.put o.dst v) w') : o.wp P a w KK Q := by
  obtain ⟨dst, op, type, pos, after, guard⟩ := o
  unfold makeOut at h
  simp only at h
  split at h
  · cases h
  · split at h
    · rename_i f args argTypes d
      split at h
      · rename_i xs hxs hn
        obtain ⟨s, hmem, hs⟩ := findM_mem h
        obtain ⟨hv, fn, hfn, hbody, hname⟩ := hE.M _ _ _ hmem
        have hm := args_mean hE hρ args.toList argTypes.toList xs (by simpa using Nat.eq_of_beq_eq_true hn) hxs
        have hc := hv xs pre e l hs hp S w _ hm
        have e1 : args.map a.eval = (args.toList.map a.eval).toArray := by apply Array.ext'; simp
        have hname' : ¬ fn.name = "runtime.NumGoroutine" := by simpa using hname
        have hbody' : ¬ fn.body = none := by intro h; rw [h] at hbody; cases hbody
        have hrun : (execOp a.eval ⟨some d, .call { callee := .value (.func f), args, argTypes }, type, pos, after, guard⟩).run P w = .ok (.enter f (args.toList.map a.eval).toArray) w := by
          rw [← e1]
          simp [execOp, resolve, invoke, Act.eval, Deferred.ofValue, callFunc, hfn, hbody', hname']
        unfold Oper.wp
        rw [hrun]
        refine hc.mono ?_
        rintro en w' ⟨v, rfl, he, g1, g2, b, g3, g4⟩
        exact hK v w' he ⟨g1, g2, b, g3⟩ (fun b' hb' => by rw [g3] at hb'; injection hb' with hb'; omega)
      · cases h
    · cases h

theorem do_call (hE : E.Ok P) (hρ : ∀ x, (ρ x).mean S bs w (a.eval x)) {f : FuncId} {args : Array Operand} {argTypes : Array TypeId} {xs : List RV}
    (hxs : toRVs ((args.toList.zip argTypes.toList).map fun p => nilTo E p.2 (ρ p.1)) = some xs) (hn : Nat.beq args.size argTypes.size = true) {pre : Prop} {res : Res} (hf : find f E.T xs = some (pre, res)) (hp : pre) :
    Says P ⟨dst, .call { callee := .value (.func f), args, argTypes }, type, pos, after, guard⟩ a w (fun v w' => Ext w w' ∧ res.mean (Or' S w) w' v) := by
  have key : ∀ (l : List Operand) (ts : List TypeId) (ys : List RV), l.length = ts.length → toRVs ((l.zip ts).map fun p => nilTo E p.2 (ρ p.1)) = some ys → All2 (RV.mean S w) ys (l.map a.eval) := by
    intro l
    induction l with
    | nil => intro ts ys _ h; simp [toRVs] at h; subst h; trivial
    | cons x l ih =>
      intro ts ys hl h
      cases ts with
      | nil => cases hl
      | cons t ts =>
        simp only [List.zip_cons_cons, List.map_cons, toRVs] at h
        split at h
        · rename_i y ys' hy hys'
          injection h with h
          subst h
          refine ⟨?_, ih ts ys' (by simpa using hl) hys'⟩
          have hm := nilTo_mean hE (t := t) (hρ x)
          cases hz : nilTo E t (ρ x) <;> rw [hz] at hy hm <;> simp [toRV] at hy
          subst hy
          exact hm
        · cases h
  have hm := key args.toList argTypes.toList xs (by simpa using Nat.eq_of_beq_eq_true hn) hxs
  obtain ⟨s, hmem, hs⟩ := find_mem hf
  obtain ⟨hv, fn, hfn, hbody, hname⟩ := hE.T _ _ hmem
  have hc := hv xs pre res hs hp S w _ hm
  refine says_call (f := f) (args := (args.toList.map a.eval).toArray) (x := res) ?_ hc (fun v w' h1 h2 => ⟨h2, h1⟩)
  have e : args.map a.eval = (args.toList.map a.eval).toArray := by apply Array.ext'; simp
  have hname' : ¬ fn.name = "runtime.NumGoroutine" := by simpa using hname
  have hbody' : ¬ fn.body = none := by intro h; rw [h] at hbody; cases hbody
  rw [← e]
  simp [execOp, resolve, invoke, Act.eval, Deferred.ofValue, callFunc, hfn, hbody', hname']

theorem do_callV (hE : E.Ok P) (hρ : ∀ x, (ρ x).mean S bs w (a.eval x)) {f : FuncId} {c : Tmp} (hc : ρ (.tmp c) = .val (.func (.func f) #[] #[])) {args : Array Operand} {argTypes : Array TypeId} {xs : List RV}
    (hxs : toRVs ((args.toList.zip argTypes.toList).map fun p => nilTo E p.2 (ρ p.1)) = some xs) (hn : Nat.beq args.size argTypes.size = true) {pre : Prop} {res : Res} (hf : find f E.T xs = some (pre, res)) (hp : pre) :
    Says P ⟨dst, .call { callee := .value (.tmp c), args, argTypes }, type, pos, after, guard⟩ a w (fun v w' => Ext w w' ∧ res.mean (Or' S w) w' v) := by
  have key : ∀ (l : List Operand) (ts : List TypeId) (ys : List RV), l.length = ts.length → toRVs ((l.zip ts).map fun p => nilTo E p.2 (ρ p.1)) = some ys → All2 (RV.mean S w) ys (l.map a.eval) := by
    intro l
    induction l with
    | nil => intro ts ys _ h; simp [toRVs] at h; subst h; trivial
    | cons x l ih =>
      intro ts ys hl h
      cases ts with
      | nil => cases hl
      | cons t ts =>
        simp only [List.zip_cons_cons, List.map_cons, toRVs] at h
        split at h
        · rename_i y ys' hy hys'
          injection h with h
          subst h
          refine ⟨?_, ih ts ys' (by simpa using hl) hys'⟩
          have hm := nilTo_mean hE (t := t) (hρ x)
          cases hz : nilTo E t (ρ x) <;> rw [hz] at hy hm <;> simp [toRV] at hy
          subst hy
          exact hm
        · cases h
  have hm := key args.toList argTypes.toList xs (by simpa using Nat.eq_of_beq_eq_true hn) hxs
  obtain ⟨s, hmem, hs⟩ := find_mem hf
  obtain ⟨hv, fn, hfn, hbody, hname⟩ := hE.T _ _ hmem
  have hcc := hv xs pre res hs hp S w _ hm
  refine says_call (f := f) (args := (args.toList.map a.eval).toArray) (x := res) ?_ hcc (fun v w' h1 h2 => ⟨h2, h1⟩)
  have e : args.map a.eval = (args.toList.map a.eval).toArray := by apply Array.ext'; simp
  have hname' : ¬ fn.name = "runtime.NumGoroutine" := by simpa using hname
  have hbody' : ¬ fn.body = none := by intro h; rw [h] at hbody; cases hbody
  rw [← e]
  have ev : a.eval (.tmp c) = .func (.func f) #[] #[] := val_mean (hρ (.tmp c)) hc
  simp [ev, execOp, resolve, invoke, Deferred.ofValue, callFunc, hfn, hbody', hname']

theorem do_bin_int {op : BinOp} {t u : TypeId} {x y : Operand} (hρ : ∀ x, (ρ x).mean S bs w (a.eval x)) {k : IntKind} {m n : Int} (hx : ρ x = .val (.int k m)) (hy : ρ y = .val (.int k n)) :
    (binInt op k m n).Good P ⟨dst, .binOp op t x y u, type, pos, after, guard⟩ a w S bs := by
  have ex := val_mean (hρ x) hx
  have ey := val_mean (hρ y) hy
  have hguard : (eqGuard op t x y (.int k m) (.int k n)).run P w = .ok () w := by
    unfold eqGuard
    cases op <;> rfl
  have fin : ∀ v : Value, (binOp op t (.int k m) (.int k n)).run P w = .ok v w → Says P ⟨dst, .binOp op t x y u, type, pos, after, guard⟩ a w (Fits S bs w (.val v)) := by
    intro v hv
    refine says_value (v := v) (w' := w) ?_ (fits_pure rfl)
    simp [execOp, ex, ey, hguard, hv]
  cases op
  case add => exact fin _ (by simp [binOp, Op.intArith])
  case sub => exact fin _ (by simp [binOp, Op.intArith])
  case mul => exact fin _ (by simp [binOp, Op.intArith])
  case quo => exact fun hn => fin _ (by simp [binOp, Op.intDiv, hn])
  case rem => exact fun hn => fin _ (by simp [binOp, Op.intDiv, hn])
  case and => exact fin _ (by simp [binOp, Op.intBits, bits])
  case or => exact fin _ (by simp [binOp, Op.intBits, bits])
  case eql => exact fin _ (by simp [binOp, Op.intCmp])
  case neq => exact fin _ (by simp [binOp, Op.intCmp])
  case lss => exact fin _ (by simp [binOp, Op.intCmp])
  case leq => exact fin _ (by simp [binOp, Op.intCmp])
  case gtr => exact fin _ (by simp [binOp, Op.intCmp])
  case geq => exact fin _ (by simp [binOp, Op.intCmp])
  all_goals exact trivial

theorem do_shift {op : BinOp} {t u : TypeId} {x y : Operand} (hρ : ∀ x, (ρ x).mean S bs w (a.eval x)) {k k' : IntKind} {m n : Int} (hx : ρ x = .val (.int k m)) (hy : ρ y = .val (.int k' n)) (hn : 0 ≤ n) {r : Int}
    (h : (op = .shl ∧ r = k.wrap (m * 2 ^ min n.toNat k.bits)) ∨ (op = .shr ∧ r = m.fdiv (2 ^ min n.toNat k.bits))) :
    Says P ⟨dst, .binOp op t x y u, type, pos, after, guard⟩ a w (Fits S bs w (.val (.int k r))) := by
  have ex := val_mean (hρ x) hx
  have ey := val_mean (hρ y) hy
  have h0 : ¬ n < 0 := by omega
  refine says_value (v := .int k r) (w' := w) ?_ (fits_pure rfl)
  rcases h with ⟨rfl, rfl⟩ | ⟨rfl, rfl⟩
  · simp [execOp, ex, ey, eqGuard, binOp, Op.shift, h0]
  · simp [execOp, ex, ey, eqGuard, binOp, Op.shift, h0]

theorem do_max {x y : Operand} {argTypes : Array TypeId} (hρ : ∀ x, (ρ x).mean S bs w (a.eval x)) {k k' : IntKind} {m n : Int} (hx : ρ x = .val (.int k m)) (hy : ρ y = .val (.int k' n)) :
    Says P ⟨dst, .call { callee := .builtin .max, args := #[x, y], argTypes := argTypes }, type, pos, after, guard⟩ a w (Fits S bs w (.val (.int k (if n > m then n else m)))) := by
  have ex := val_mean (hρ x) hx
  have ey := val_mean (hρ y) hy
  refine says_value (v := .int k (if n > m then n else m)) (w' := w) ?_ (fits_pure rfl)
  simp [execOp, resolve, invoke, builtin, Builtin.max_, Builtin.max2, ex, ey]

theorem do_min {x y : Operand} {argTypes : Array TypeId} (hρ : ∀ x, (ρ x).mean S bs w (a.eval x)) {k k' : IntKind} {m n : Int} (hx : ρ x = .val (.int k m)) (hy : ρ y = .val (.int k' n)) :
    Says P ⟨dst, .call { callee := .builtin .min, args := #[x, y], argTypes := argTypes }, type, pos, after, guard⟩ a w (Fits S bs w (.val (.int k (if n < m then n else m)))) := by
  have ex := val_mean (hρ x) hx
  have ey := val_mean (hρ y) hy
  refine says_value (v := .int k (if n < m then n else m)) (w' := w) ?_ (fits_pure rfl)
  simp [execOp, resolve, invoke, builtin, Builtin.min_, Builtin.min2, ex, ey]

theorem do_field (hE : E.Ok P) {t : TypeId} {x : Operand} {f o n : Nat} (hρ : ∀ x, (ρ x).mean S bs w (a.eval x)) {cs : List CV} (hx : ρ x = .agg cs) (hf : tfld t f E.flds = some (o, n)) :
    Says P ⟨dst, .field t x f, type, pos, after, guard⟩ a w (Fits S bs w (.agg ((cs.drop o).take n))) := by
  have h := hρ x
  rw [hx] at h
  obtain ⟨us, he, hm⟩ := h
  have hr := hE.flds t f o n (tfld_mem hf) w us
  refine says_value (v := .agg ((us.drop o).take n).toArray) (w' := w) ?_ (fits_pure ⟨_, rfl, (hm.drop o).take n⟩)
  simp only [execOp, he, Sem.run_bind, hr, Result.andThen_ok, Sem.run_pure]

theorem do_strIndex (hE : E.Ok P) {t : TypeId} {x i : Operand} (hρ : ∀ x, (ρ x).mean S bs w (a.eval x)) {s : ByteArray} {k : IntKind} {j : Int} (hx : ρ x = .val (.string s)) (hi : ρ i = .val (.int k j)) (ht : t ∈ E.strs) (hj : 0 ≤ j ∧ j.toNat < s.size) :
    Says P ⟨dst, .index t x i, type, pos, after, guard⟩ a w (Fits S bs w (.val (.int .u8 ((s[j.toNat]?.getD 0).toNat : Nat)))) := by
  have ex := val_mean (hρ x) hx
  have ei := val_mean (hρ i) hi
  have hu := hE.strs t ht
  have hg : s[j.toNat]? = some s[j.toNat] := getElem?_pos s j.toNat hj.2
  refine says_value (v := .int .u8 ((s[j.toNat]?.getD 0).toNat : Nat)) (w' := w) ?_ (fits_pure rfl)
  simp [execOp, ex, ei, Instr.index, asIntOf, run_underlying hu, hj.1, hg]

theorem bound_val (hρ : ∀ x, (ρ x).mean S bs w (a.eval x)) {lo : Option Operand} {b : Option Int} (h : boundV ρ lo = some b) : (b = none ∧ lo.map a.eval = none) ∨ ∃ k n, b = some n ∧ lo.map a.eval = some (.int k n) := by
  unfold boundV at h
  split at h
  · injection h with h; subst h; exact .inl ⟨rfl, rfl⟩
  · split at h
    · rename_i x _ k n hx
      injection h with h
      subst h
      have := val_mean (hρ x) hx
      exact .inr ⟨k, n, rfl, by simp [this]⟩
    · cases h


theorem do_cut (hE : E.Ok P) {t : TypeId} {x : Operand} {lo hi : Option Operand} (hρ : ∀ x, (ρ x).mean S bs w (a.eval x)) {s : SI} (hs : tnil t E.nils = some s) {bl bh : Option Int} (hl : boundV ρ lo = some bl) (hh : boundV ρ hi = some bh)
    {n c : Nat} {ad : Option Addr} (hx : a.eval x = .slice ad n c) (hc : n ≤ c) (hp : cutPre n bl bh) :
    (execOp a.eval ⟨dst, .slice t x lo hi none, type, pos, after, guard⟩).run P w = .ok (.value (sliced ad (cutLo bl) (cutHi n bh) c s.esize)) w ∧ cutLo bl ≤ cutHi n bh ∧ cutHi n bh ≤ n := by
  have ok := hE.nils _ _ (tnil_mem hs)
  obtain ⟨ti, z, hti, hsz, _⟩ := ok.size
  have hel : P.elem t = s.elem := by simp [Program.elem, ok.under]
  have hu : P.underlying t = some (.slice (P.elem t)) := by rw [hel]; exact ok.under
  have hsize : (sizeOf (P.elem t)).run P w = .ok s.esize w := by rw [hel]; simp [sizeOf, typeInfo, hti, hsz]
  rcases bound_val hρ hl with ⟨rfl, e1⟩ | ⟨k1, n1, rfl, e1⟩ <;> rcases bound_val hρ hh with ⟨rfl, e2⟩ | ⟨k2, n2, rfl, e2⟩
  · refine ⟨?_, Nat.zero_le _, Nat.le_refl _⟩
    simp only [execOp, hx, e1, e2, Option.map_none]
    simp only [Sem.run_bind, run_sliceAt_slice w t _ _ _ _ hu, run_slice_all w t ad n c hu, hsize, Result.andThen_ok]
    rfl
  · have hp' : 0 ≤ n2 ∧ n2 ≤ n := hp
    refine ⟨?_, Nat.zero_le _, by simp only [cutHi]; omega⟩
    simp only [execOp, hx, e1, e2, Option.map_none]
    simp only [Sem.run_bind, run_sliceAt_slice w t _ _ _ _ hu, run_slice_h w t ad n c hu k2 n2 hp'.1 (by omega), hsize, Result.andThen_ok]
    rfl
  · have hp' : 0 ≤ n1 ∧ n1 ≤ n := hp
    refine ⟨?_, by simp only [cutLo, cutHi]; omega, Nat.le_refl _⟩
    simp only [execOp, hx, e1, e2, Option.map_none]
    simp only [Sem.run_bind, run_sliceAt_slice w t _ _ _ _ hu, run_slice_l w t ad n c hu k1 n1 hp'.1 hp'.2, hsize, Result.andThen_ok]
    rfl
  · have hp' : 0 ≤ n1 ∧ n1 ≤ n2 ∧ n2 ≤ n := hp
    refine ⟨?_, by simp only [cutLo, cutHi]; omega, by simp only [cutHi]; omega⟩
    simp only [execOp, hx, e1, e2, Option.map_none]
    simp only [Sem.run_bind, run_sliceAt_slice w t _ _ _ _ hu, run_slice_lh w t ad n c hu k1 k2 n1 n2 hp'.1 hp'.2.1 (by omega), hsize, Result.andThen_ok]
    rfl

theorem cutL_eq {α : Type} (l : List α) (bl bh : Option Int) : cutL l bl bh = (l.take (cutHi l.length bh)).drop (cutLo bl) := by
  cases bl <;> cases bh <;> simp [cutL, cutLo, cutHi]

theorem do_cutN (hE : E.Ok P) {t : TypeId} {x : Operand} {lo hi : Option Operand} (hρ : ∀ x, (ρ x).mean S bs w (a.eval x)) {s : SI} (hs : tnil t E.nils = some s) {bl bh : Option Int} (hl : boundV ρ lo = some bl) (hh : boundV ρ hi = some bh)
    {l : List Nat} (hx : nilTo E t (ρ x) = .one (.nat l)) (hn : Nat.beq s.esize 1 = true) (hp : cutPre l.length bl bh) :
    Says P ⟨dst, .slice t x lo hi none, type, pos, after, guard⟩ a w (Fits S bs w (.one (.nat (cutL l bl bh)))) := by
  have h := nilTo_mean (t := t) hE (hρ x)
  rw [hx] at h
  obtain ⟨hlim, ad, c, hv, hc, hr⟩ := h
  obtain ⟨hrun, h1, h2⟩ := do_cut (dst := dst) (type := type) (pos := pos) (after := after) (guard := guard) hE hρ hs hl hh hv hc hp
  have e1 := Nat.eq_of_beq_eq_true hn
  refine says_value hrun (fits_pure ?_)
  rw [cutL_eq]
  generalize cutLo bl = m at *
  generalize cutHi l.length bh = q at *
  have hlen : ((l.take q).drop m).length = q - m := by simp; omega
  refine ⟨fun y hy => hlim y (List.mem_of_mem_take (List.mem_of_mem_drop hy)), (if c = m then ad else ad.map (·.add (m * s.esize))), c - m, ?_, by rw [hlen]; omega, fun h0 => ?_⟩
  · rw [hlen]; rfl
  · rw [hlen] at h0
    obtain ⟨b, off, had, hS, hb, hcell⟩ := hr (by omega)
    refine ⟨b, off + m, ?_, hS, hb, fun i hi => ?_⟩
    · rw [if_neg (by omega), had, e1, Nat.mul_one]
      simp [add_at]
    · rw [hlen] at hi
      have := hcell (m + i) (by omega)
      rw [Nat.add_assoc, this]
      congr 3
      simp only [List.getD_eq_getElem?_getD, List.getElem?_drop, List.getElem?_take]
      rw [if_pos (by omega)]

theorem do_cutS (hE : E.Ok P) {t : TypeId} {x : Operand} {lo hi : Option Operand} (hρ : ∀ x, (ρ x).mean S bs w (a.eval x)) {s : SI} (hs : tnil t E.nils = some s) {bl bh : Option Int} (hl : boundV ρ lo = some bl) (hh : boundV ρ hi = some bh)
    {n : Nat} {l : List (List BV)} (hx : nilTo E t (ρ x) = .one (.sl n l)) (hn : Nat.beq s.esize n = true) (hp : cutPre l.length bl bh) :
    Says P ⟨dst, .slice t x lo hi none, type, pos, after, guard⟩ a w (Fits S bs w (.one (.sl n (cutL l bl bh)))) := by
  have h := nilTo_mean (t := t) hE (hρ x)
  rw [hx] at h
  obtain ⟨ad, c, hv, hc, hr⟩ := h
  obtain ⟨hrun, h1, h2⟩ := do_cut (dst := dst) (type := type) (pos := pos) (after := after) (guard := guard) hE hρ hs hl hh hv hc hp
  have e1 := Nat.eq_of_beq_eq_true hn
  refine says_value hrun (fits_pure ?_)
  rw [cutL_eq]
  generalize cutLo bl = m at *
  generalize cutHi l.length bh = q at *
  have hlen : ((l.take q).drop m).length = q - m := by simp; omega
  refine ⟨(if c = m then ad else ad.map (·.add (m * s.esize))), c - m, ?_, by rw [hlen]; omega, fun h0 => ?_⟩
  · rw [hlen]; rfl
  · rw [hlen] at h0
    obtain ⟨b, off, had, hS, hb, hcell⟩ := hr (by omega)
    refine ⟨b, off + m * n, ?_, hS, hb, fun i y hy => ?_⟩
    · rw [if_neg (by omega), had, e1]
      simp [add_at]
    · rw [List.getElem?_drop, List.getElem?_take] at hy
      split at hy
      · obtain ⟨us, g1, g2, g3, g4⟩ := hcell (m + i) y hy
        refine ⟨us, g1, g2, g3, fun j u hj => ?_⟩
        have := g4 j u hj
        rw [Nat.add_mul] at this
        rw [← this]
        congr 2
        omega
      · cases hy

theorem do_bin_bool (hE : E.Ok P) {op : BinOp} {t u : TypeId} {x y : Operand} (hρ : ∀ x, (ρ x).mean S bs w (a.eval x)) {m n : Bool} (hx : ρ x = .val (.bool m)) (hy : ρ y = .val (.bool n)) (ht : t ∈ E.bools) {r : AV}
    (h : (op = .eql ∧ r = .val (.bool (m == n))) ∨ (op = .neq ∧ r = .val (.bool (!(m == n))))) :
    Says P ⟨dst, .binOp op t x y u, type, pos, after, guard⟩ a w (Fits S bs w r) := by
  have ex := val_mean (hρ x) hx
  have ey := val_mean (hρ y) hy
  have hu := hE.bools t ht
  have heq : (Op.equal t (.bool m) (.bool n)).run P w = .ok (m == n) w := by
    show (Op.equalIn (9999 + 1) t (.bool m) (.bool n)).run P w = .ok (m == n) w
    exact run_equalIn_bool w 9999 t m n hu
  rcases h with ⟨rfl, rfl⟩ | ⟨rfl, rfl⟩
  · refine says_value (v := .bool (m == n)) (w' := w) ?_ (fits_pure rfl)
    simp [execOp, ex, ey, eqGuard, binOp, heq]
  · refine says_value (v := .bool (!(m == n))) (w' := w) ?_ (fits_pure rfl)
    simp [execOp, ex, ey, eqGuard, binOp, heq]

theorem do_bin_agg (hE : E.Ok P) {op : BinOp} {t u : TypeId} {x y : Operand} (hρ : ∀ x, (ρ x).mean S bs w (a.eval x)) {cs ds : List CV} (hx : ρ x = .agg cs) (hy : ρ y = .agg ds) {b : Bool} (hb : teq t E.eqs cs ds = some b) {r : AV}
    (h : (op = .eql ∧ r = .val (.bool b)) ∨ (op = .neq ∧ r = .val (.bool (!b)))) :
    Says P ⟨dst, .binOp op t x y u, type, pos, after, guard⟩ a w (Fits S bs w r) := by
  have h1 := hρ x
  have h2 := hρ y
  rw [hx] at h1
  rw [hy] at h2
  obtain ⟨us, eu, hu⟩ := h1
  obtain ⟨vs, ev, hv⟩ := h2
  obtain ⟨q, hq, hqq⟩ := teq_mem hb
  obtain ⟨r1, r2⟩ := hE.eqs _ _ hq cs ds b hqq S w us vs hu hv x y
  rcases h with ⟨rfl, rfl⟩ | ⟨rfl, rfl⟩
  · refine says_value (v := .bool b) (w' := w) ?_ (fits_pure rfl)
    simp only [execOp, Sem.run_bind] at r1 ⊢
    rw [eu, ev, r1]
    rfl
  · refine says_value (v := .bool (!b)) (w' := w) ?_ (fits_pure rfl)
    simp only [execOp, Sem.run_bind] at r2 ⊢
    rw [eu, ev, r2]
    rfl

theorem do_un {op : UnOp} {t : TypeId} {x : Operand} (hρ : ∀ x, (ρ x).mean S bs w (a.eval x)) :
    (unOut op (ρ x)).Good P ⟨dst, .unOp op t x, type, pos, after, guard⟩ a w S bs := by
  have hx := hρ x
  unfold unOut
  split
  · rename_i k n e
    rw [e] at hx
    have ex : a.eval x = .int k n := hx
    refine says_value (v := .int k (k.wrap (0 - n))) (w' := w) ?_ (fits_pure rfl)
    simp [execOp, ex, Op.unary, Op.intArith]
  · rename_i b e
    rw [e] at hx
    have ex : a.eval x = .bool b := hx
    refine says_value (v := .bool !b) (w' := w) ?_ (fits_pure rfl)
    simp [execOp, ex, Op.unary]
  · trivial

theorem do_convert (hE : E.Ok P) {s d : TypeId} {x : Operand} (hρ : ∀ x, (ρ x).mean S bs w (a.eval x)) {k0 k k' : IntKind} {n : Int} (hs : tint s E.ints = some k0) (hd : tint d E.ints = some k) (hx : ρ x = .val (.int k' n)) :
    Says P ⟨dst, .convert s d x, type, pos, after, guard⟩ a w (Fits S bs w (.val (.int k (k.wrap n)))) := by
  have ex := val_mean (hρ x) hx
  have h1 := hE.ints _ _ (tint_mem hs)
  have h2 := hE.ints _ _ (tint_mem hd)
  refine says_value (v := .int k (k.wrap n)) (w' := w) ?_ (fits_pure rfl)
  simp [execOp, ex, convert, run_underlying h1, run_underlying h2, Conv.intToInt]

theorem do_len (hE : E.Ok P) {x : Operand} {t : TypeId} (hρ : ∀ x, (ρ x).mean S bs w (a.eval x)) {s : SI} (hs : tnil t E.nils = some s) {n : Nat}
    (h : (∃ l, nilTo E t (ρ x) = .one (.nat l) ∧ n = l.length) ∨ (∃ k l, nilTo E t (ρ x) = .one (.sl k l) ∧ n = l.length) ∨ (∃ k l, nilTo E t (ρ x) = .one (.sll k l) ∧ n = l.length)) :
    Says P ⟨dst, .call { callee := .builtin .len, args := #[x], argTypes := #[t] }, type, pos, after, guard⟩ a w (Fits S bs w (.val (.int .i64 n))) := by
  have hm := nilTo_mean hE (t := t) (hρ x)
  have hu := (hE.nils _ _ (tnil_mem hs)).under
  have hv : ∃ ad c, a.eval x = .slice ad n c := by
    rcases h with ⟨l, e, rfl⟩ | ⟨k, l, e, rfl⟩ | ⟨k, l, e, rfl⟩ <;> rw [e] at hm
    · obtain ⟨_, ad, c, hv, _⟩ := hm; exact ⟨ad, c, hv⟩
    · obtain ⟨ad, c, hv, _⟩ := hm; exact ⟨ad, c, hv⟩
    · obtain ⟨ad, c, hv, _⟩ := hm; exact ⟨ad, c, hv⟩
  obtain ⟨ad, c, hv⟩ := hv
  refine says_value (v := .int .i64 n) (w' := w) ?_ (fits_pure rfl)
  simp [execOp, resolve, invoke, builtin, Builtin.len_, hv, run_underlying hu, goInt]

theorem do_index (hE : E.Ok P) {t : TypeId} {x i : Operand} (hρ : ∀ x, (ρ x).mean S bs w (a.eval x)) {s : SI} (hs : tnil t E.nils = some s) {k : IntKind} {j : Int} (hi : ρ i = .val (.int k j)) {n : Nat} (hj0 : 0 ≤ j) (hj1 : j < n)
    {ad : Option Addr} {c : Nat} (hx : a.eval x = .slice ad n c) {b off : Nat} (had : ad = some ⟨b, off, none⟩) :
    (execOp a.eval ⟨dst, .indexAddr t x i, type, pos, after, guard⟩).run P w = .ok (.value (.pointer (some ⟨b, off + j.toNat * s.esize, none⟩))) w := by
  have ei := val_mean (hρ i) hi
  have ok := hE.nils _ _ (tnil_mem hs)
  obtain ⟨ti, z, hti, hsz, _⟩ := ok.size
  subst had
  simp [execOp, Instr.indexAt, ei, asIntOf, run_underlying ok.under, hx, hj0, hj1, sizeOf, typeInfo, hti, hsz, add_at]

theorem do_index_nat (hE : E.Ok P) {t : TypeId} {x i : Operand} (hρ : ∀ x, (ρ x).mean S bs w (a.eval x)) {s : SI} (hs : tnil t E.nils = some s) {k : IntKind} {j : Int} (hi : ρ i = .val (.int k j)) {l : List Nat} (hj : 0 ≤ j ∧ j < l.length)
    (hx : ρ x = .one (.nat l)) (hn : Nat.beq s.esize 1 = true) :
    Says P ⟨dst, .indexAddr t x i, type, pos, after, guard⟩ a w (Fits S bs w (.elem [.val (.int .u32 (l.getD j.toNat 0 : Nat))])) := by
  have h := hρ x
  rw [hx] at h
  obtain ⟨_, ad, c, hv, hc, hr⟩ := h
  obtain ⟨b, off, had, hS, hb, hcell⟩ := hr (by omega)
  have e1 := Nat.eq_of_beq_eq_true hn
  refine says_value (do_index hE hρ hs hi hj.1 hj.2 hv had) (fits_pure ⟨b, off + j.toNat * s.esize, [.int .u32 (l.getD j.toNat 0 : Nat)], rfl, hS, hb, ⟨rfl, trivial⟩, ?_⟩)
  intro m u hm
  match m, hm with
  | 0, hm =>
    simp only [List.getElem?_cons_zero, Option.some.injEq] at hm
    subst hm
    have := hcell j.toNat (by omega)
    simpa [e1] using this
  | m + 1, hm => simp at hm

theorem bvs_mean {A : Nat → Prop} : ∀ {xs : List BV} {us : List Value}, All2 (BV.mean A w) xs us → All2 (CV.mean A w) (xs.map .b) us
  | [], [], _ => trivial
  | _ :: _, _ :: _, ⟨h1, h2⟩ => ⟨h1, bvs_mean h2⟩
  | [], _ :: _, h => h.elim
  | _ :: _, [], h => h.elim

theorem do_index_sl (hE : E.Ok P) {t : TypeId} {x i : Operand} (hρ : ∀ x, (ρ x).mean S bs w (a.eval x)) {s : SI} (hs : tnil t E.nils = some s) {k : IntKind} {j : Int} (hi : ρ i = .val (.int k j)) {n : Nat} {l : List (List BV)} (hj : 0 ≤ j ∧ j < l.length)
    (hx : ρ x = .one (.sl n l)) (hn : Nat.beq s.esize n = true) :
    Says P ⟨dst, .indexAddr t x i, type, pos, after, guard⟩ a w (Fits S bs w (.elem ((l.getD j.toNat []).map .b))) := by
  have h := hρ x
  rw [hx] at h
  obtain ⟨ad, c, hv, hc, hr⟩ := h
  obtain ⟨b, off, had, hS, hb, hcell⟩ := hr (by omega)
  have e1 := Nat.eq_of_beq_eq_true hn
  have hlt : j.toNat < l.length := by omega
  obtain ⟨us, hlen, _, hm, hu⟩ := hcell j.toNat l[j.toNat] (by simp [hlt])
  have hget : l.getD j.toNat [] = l[j.toNat] := by simp [hlt]
  refine says_value (do_index hE hρ hs hi hj.1 hj.2 hv had) (fits_pure ⟨b, off + j.toNat * s.esize, us, rfl, hS, hb, ?_, ?_⟩)
  · rw [hget]
    exact bvs_mean hm
  · intro m u hm'
    rw [e1]
    exact hu m u hm'

theorem do_index_sll (hE : E.Ok P) {t : TypeId} {x i : Operand} (hρ : ∀ x, (ρ x).mean S bs w (a.eval x)) {s : SI} (hs : tnil t E.nils = some s) {k : IntKind} {j : Int} (hi : ρ i = .val (.int k j)) {n : Nat} {l : List (List (List BV))} (hj : 0 ≤ j ∧ j < l.length)
    (hx : ρ x = .one (.sll n l)) (hn : Nat.beq s.esize 1 = true) :
    Says P ⟨dst, .indexAddr t x i, type, pos, after, guard⟩ a w (Fits S bs w (.elem [.sl n (l.getD j.toNat [])])) := by
  have h := hρ x
  rw [hx] at h
  obtain ⟨ad, c, hv, hc, hr⟩ := h
  obtain ⟨b, off, had, hS, hb, hcell⟩ := hr (by omega)
  have e1 := Nat.eq_of_beq_eq_true hn
  have hlt : j.toNat < l.length := by omega
  obtain ⟨u, hm, hu⟩ := hcell j.toNat l[j.toNat] (by simp [hlt])
  have hget : l.getD j.toNat [] = l[j.toNat] := by simp [hlt]
  refine says_value (do_index hE hρ hs hi hj.1 hj.2 hv had) (fits_pure ⟨b, off + j.toNat * s.esize, [u], rfl, hS, hb, ⟨by rw [hget]; exact hm, trivial⟩, ?_⟩)
  intro m v hm'
  match m, hm' with
  | 0, hm' =>
    simp only [List.getElem?_cons_zero, Option.some.injEq] at hm'
    subst hm'
    simpa [e1] using hu
  | m + 1, hm' => simp at hm'

theorem do_index_arr (hE : E.Ok P) {t : TypeId} {x i : Operand} (hρ : ∀ x, (ρ x).mean S bs w (a.eval x)) {ti : TI} (hti : tinfo t E.tis = some ti) {k : IntKind} {j : Int} (hi : ρ i = .val (.int k j)) (hj : 0 ≤ j)
    {q off o n : Nat} (hx : ρ x = .ptr q off) (hf : nth ti.fields j.toNat = some (o, n)) (ha : ti.isArr = true) :
    Says P ⟨dst, .indexAddr t x i, type, pos, after, guard⟩ a w (Fits S bs w (.ptr q (off + o))) := by
  have ok := hE.tis _ _ (tinfo_mem hti)
  obtain ⟨d, hd, hk⟩ := ok.under
  have ei := val_mean (hρ i) hi
  have h := hρ x
  rw [hx] at h
  obtain ⟨b, hb, he⟩ := h
  rw [nth_eq] at hf
  have hst : ∃ len e te, d = .array len e ∧ j < len ∧ P.info? e = some te ∧ o = j.toNat * te.size := by
    cases d <;> simp only [ha] at hk
    case array len e =>
      obtain ⟨_, _, hlen, te, hte, hall⟩ := hk
      have hlt := (List.getElem?_eq_some_iff.1 hf).1
      have h1 := (hall _ _ hf).1
      exact ⟨len, e, te, rfl, by omega, hte, by injection h1⟩
    all_goals (first | (cases hk.2; done) | (cases hk.2.1; done))
  obtain ⟨len, e, te, rfl, hlt, hte, rfl⟩ := hst
  refine says_value (v := .pointer (some ⟨b, off + j.toNat * te.size, none⟩)) (w' := w) ?_ (fits_pure ⟨b, hb, rfl⟩)
  simp [execOp, Instr.indexAt, ei, asIntOf, run_underlying hd, he, Instr.sureAddr, hj, hlt, sizeOf, typeInfo, hte, add_at]

/-- The value of a row that has an element. -/
theorem own_form {e size n : Nat} {v : Value} {xs : List Value} (h : w.ownsRow 0 e size v n xs) (h0 : 0 < n) : ∃ g cap cur, v = .slice (some ⟨g, 0, none⟩) n cap ∧ w.heap[g]? = some (.cells cur e (0, 0)) ∧ cur.toList.take (n * size) = xs ∧ n ≤ cap ∧ cur.size = cap * size := by
  rcases h.2 with ⟨_, rfl⟩ | ⟨g, cap, cur, hv, _, hh, hn, _, hs, ht⟩
  · omega
  · exact ⟨g, cap, cur, hv, hh, ht, hn, hs⟩

theorem own_slice {e size n : Nat} {v : Value} {xs : List Value} (h : w.ownsRow 0 e size v n xs) : ∃ ad c, v = .slice ad n c := by
  rcases h.2 with ⟨rfl, rfl⟩ | ⟨g, cap, cur, hv, _⟩
  · exact ⟨none, 0, rfl⟩
  · exact ⟨_, _, hv⟩

theorem rw_slice {r : Rw} {v : Value} (h : r.mean S w v) {n : Nat} (hn : (∃ e l, r = .n e l ∧ n = l.length) ∨ (∃ e k l, r = .s e k l ∧ n = l.length) ∨ (∃ e k l, r = .ll e k l ∧ n = l.length)) : ∃ e size xs, w.ownsRow 0 e size v n xs := by
  rcases hn with ⟨e, l, rfl, rfl⟩ | ⟨e, k, l, rfl, rfl⟩ | ⟨e, k, l, rfl, rfl⟩
  · exact ⟨_, _, _, h.2⟩
  · obtain ⟨us, h1, _⟩ := h; exact ⟨_, _, _, h1⟩
  · obtain ⟨us, h1, _⟩ := h; exact ⟨_, _, _, h1⟩

theorem do_len_own (hE : E.Ok P) (hbx : Boxes S w bs bx) {x : Operand} {t : TypeId} (hρ : ∀ x, (ρ x).mean S bs w (a.eval x)) {s : SI} (hs : tnil t E.nils = some s) {k n : Nat} (hk : nilTo E t (ρ x) = .own k) {r : Rw} (hr : nth bx.r k = some r)
    (hn : (∃ e l, r = .n e l ∧ n = l.length) ∨ (∃ e k l, r = .s e k l ∧ n = l.length) ∨ (∃ e k l, r = .ll e k l ∧ n = l.length)) :
    Says P ⟨dst, .call { callee := .builtin .len, args := #[x], argTypes := #[t] }, type, pos, after, guard⟩ a w (Fits S bs w (.val (.int .i64 n))) := by
  have hm := nilTo_mean hE (t := t) (hρ x)
  rw [hk] at hm
  have hm' : bs.v[k]? = some (a.eval x) := hm
  obtain ⟨v, hv, hmean⟩ := row_at hbx hr
  rw [hm'] at hv
  injection hv with hv
  subst hv
  obtain ⟨e, size, xs, ho⟩ := rw_slice hmean hn
  obtain ⟨ad, c, hv⟩ := own_slice ho
  have hu := (hE.nils _ _ (tnil_mem hs)).under
  refine says_value (v := .int .i64 n) (w' := w) ?_ (fits_pure rfl)
  simp [execOp, resolve, invoke, builtin, Builtin.len_, hv, run_underlying hu, goInt]

theorem do_index_own (hE : E.Ok P) (hbx : Boxes S w bs bx) {t : TypeId} {x i : Operand} (hρ : ∀ x, (ρ x).mean S bs w (a.eval x)) {s : SI} (hs : tnil t E.nils = some s) {kk : IntKind} {j : Int} (hi : ρ i = .val (.int kk j)) {k n sz : Nat} (hx : ρ x = .own k) {r : Rw} (hr : nth bx.r k = some r)
    (hn : (∃ e l, r = .n e l ∧ n = l.length) ∨ (∃ e k l, r = .s e k l ∧ n = l.length) ∨ (∃ e k l, r = .ll e k l ∧ n = l.length)) (hj : 0 ≤ j ∧ j < n) (hsz : s.esize = sz) :
    Says P ⟨dst, .indexAddr t x i, type, pos, after, guard⟩ a w (Fits S bs w (.ownAt k sz j.toNat)) := by
  have hm := hρ x
  rw [hx] at hm
  have hm' : bs.v[k]? = some (a.eval x) := hm
  obtain ⟨v, hv, hmean⟩ := row_at hbx hr
  rw [hm'] at hv
  injection hv with hv
  subst hv
  obtain ⟨e, size, xs, ho⟩ := rw_slice hmean hn
  obtain ⟨g, cap, cur, hv, _⟩ := own_form ho (by omega)
  subst hsz
  refine says_value (do_index hE hρ hs hi hj.1 hj.2 hv rfl) (fits_pure ⟨g, n, cap, by rw [← hv]; exact hm', by simp⟩)

theorem do_len_part (hE : E.Ok P) {x : Operand} {t : TypeId} (hρ : ∀ x, (ρ x).mean S bs w (a.eval x)) {s : SI} (hs : tnil t E.nils = some s) {k lo n : Nat} {o : Option (Nat × Nat × Nat)} (hk : nilTo E t (ρ x) = .part k lo n o) :
    Says P ⟨dst, .call { callee := .builtin .len, args := #[x], argTypes := #[t] }, type, pos, after, guard⟩ a w (Fits S bs w (.val (.int .i64 n))) := by
  have hm := nilTo_mean hE (t := t) (hρ x)
  rw [hk] at hm
  obtain ⟨b, N, c, c', _, ⟨hv, _⟩, _⟩ := hm
  have hu := (hE.nils _ _ (tnil_mem hs)).under
  refine says_value (v := .int .i64 n) (w' := w) ?_ (fits_pure rfl)
  simp [execOp, resolve, invoke, builtin, Builtin.len_, hv, run_underlying hu, goInt]

theorem do_index_part (hE : E.Ok P) {t : TypeId} {x i : Operand} (hρ : ∀ x, (ρ x).mean S bs w (a.eval x)) {s : SI} (hs : tnil t E.nils = some s) {kk : IntKind} {j : Int} (hi : ρ i = .val (.int kk j)) {k lo n : Nat} {o : Option (Nat × Nat × Nat)} (hx : ρ x = .part k lo n o) (hj : 0 ≤ j ∧ j < n) (hsz : s.esize = 1) :
    Says P ⟨dst, .indexAddr t x i, type, pos, after, guard⟩ a w (Fits S bs w (.ownAt k 1 (lo + j.toNat))) := by
  have hm := hρ x
  rw [hx] at hm
  obtain ⟨b, N, c, c', hb, ⟨hv, _⟩, _⟩ := hm
  refine says_value (do_index hE hρ hs hi hj.1 hj.2 hv rfl) (fits_pure ⟨b, N, c, hb, ?_⟩)
  rw [hsz, Nat.mul_one, Nat.mul_one]

theorem do_cut_own (hE : E.Ok P) (hbx : Boxes S w bs bx) {t : TypeId} {x : Operand} {lo hi : Option Operand} (hρ : ∀ x, (ρ x).mean S bs w (a.eval x)) {s : SI} (hs : tnil t E.nils = some s) {bl bh : Option Int} (hl : boundV ρ lo = some bl) (hh : boundV ρ hi = some bh)
    {k : Nat} {e : TypeId} {l : List Nat} (hx : nilTo E t (ρ x) = .own k) (hr : nth bx.r k = some (.n e l)) (hn : Nat.beq s.esize 1 = true) (hp : cutPre l.length bl bh ∧ cutLo bl < cutHi l.length bh) :
    Says P ⟨dst, .slice t x lo hi none, type, pos, after, guard⟩ a w (Fits S bs w (.part k (cutLo bl) (cutHi l.length bh - cutLo bl) none)) := by
  have h := nilTo_mean (t := t) hE (hρ x)
  rw [hx] at h
  have hm' : bs.v[k]? = some (a.eval x) := h
  obtain ⟨v, hv, hmean⟩ := row_at hbx hr
  rw [hm'] at hv
  injection hv with hv
  subst hv
  have e1 := Nat.eq_of_beq_eq_true hn
  have hbound : cutHi l.length bh ≤ l.length ∨ True := .inr trivial
  have h0 : 0 < l.length := by
    rcases Nat.eq_zero_or_pos l.length with h0 | h0
    · exfalso
      have := hp.1
      have h2 := hp.2
      rw [h0] at this h2
      cases bl <;> cases bh <;> simp only [cutPre, cutLo, cutHi] at this h2 <;> omega
    · exact h0
  obtain ⟨g, cap, cur, hv, _, _, hnc, _⟩ := own_form hmean.2 h0
  obtain ⟨hrun, h1, h2⟩ := do_cut (dst := dst) (type := type) (pos := pos) (after := after) (guard := guard) hE hρ hs hl hh hv hnc hp.1
  refine says_value hrun (fits_pure ⟨g, l.length, cap, cap - cutLo bl, by rw [← hv]; exact hm', ⟨?_, by omega⟩, fun x hx => by cases hx⟩)
  show Value.slice (if cap = cutLo bl then some ⟨g, 0, none⟩ else (some ⟨g, 0, none⟩ : Option Addr).map (·.add (cutLo bl * s.esize))) (cutHi l.length bh - cutLo bl) (cap - cutLo bl) = _
  rw [if_neg (by omega), e1, Nat.mul_one]
  simp [add_at]

theorem cell_own {e size n : Nat} {v : Value} {xs : List Value} (h : w.ownsRow 0 e size v n xs) {b m c : Nat} (hv : v = .slice (some ⟨b, 0, none⟩) m c) : CellsAt w b 0 xs := by
  rcases h.2 with ⟨rfl, _⟩ | ⟨g, cap, cur, rfl, _, hg, _, _, _, htake⟩
  · cases hv
  · injection hv with hv
    injection hv with hv
    injection hv with hv
    subst hv
    intro j u hj
    rw [← htake, List.getElem?_take] at hj
    split at hj
    · simp only [World.cell?, hg, Nat.zero_add]
      simpa using hj
    · cases hj

theorem do_load_ownN (hE : E.Ok P) (hbx : Boxes S w bs bx) (hρ : ∀ x, (ρ x).mean S bs w (a.eval x)) {t : TypeId} {x : Operand} {i : TI} (hi : tinfo t E.tis = some i) (hg : i.isAgg = false) {k sz j : Nat} (hx : ρ x = .ownAt k sz j) {e : TypeId} {l : List Nat} (hr : nth bx.r k = some (.n e l))
    (hsz : Nat.beq sz 1 = true) (hj : j < l.length) : Says P ⟨dst, .load t x, type, pos, after, guard⟩ a w (Fits S bs w (.val (.int .u32 (l.getD j 0 : Nat)))) := by
  have hm := hρ x
  rw [hx] at hm
  obtain ⟨b, n, c, hv, he⟩ := hm
  obtain ⟨v, hv', hmean⟩ := row_at hbx hr
  rw [hv] at hv'
  injection hv' with hv'
  have hca := cell_own hmean.2 hv'.symm
  have e1 := Nat.eq_of_beq_eq_true hsz
  subst e1
  have hc := hca j (.int .u32 ((l.getD j 0 : Nat) : Int)) (by simp [hj])
  have ok := hE.tis _ _ (tinfo_mem hi)
  obtain ⟨d, hd, hk⟩ := ok.under
  have hA : (isAgg t).run P w = .ok false w := by
    simp only [isAgg, Sem.run_bind, run_underlying hd, Result.andThen_ok]
    cases d <;> simp_all
  refine says_value (v := .int .u32 (l.getD j 0 : Nat)) (w' := w) ?_ (fits_pure rfl)
  simp only [Nat.zero_add] at hc
  simp [execOp, Instr.loadAt, he, Instr.sureAddr, loadVar, hA, hc]

theorem do_load_ownL (hE : E.Ok P) (hbx : Boxes S w bs bx) (hρ : ∀ x, (ρ x).mean S bs w (a.eval x)) {t : TypeId} {x : Operand} {i : TI} (hi : tinfo t E.tis = some i) (hg : i.isAgg = false) {k sz j : Nat} (hx : ρ x = .ownAt k sz j) {e : TypeId} {m : Nat} {l : List (List (List BV))} (hr : nth bx.r k = some (.ll e m l))
    (hsz : Nat.beq sz 1 = true) (hj : j < l.length) : Says P ⟨dst, .load t x, type, pos, after, guard⟩ a w (Fits S bs w (.one (.sl m (l.getD j [])))) := by
  have hm := hρ x
  rw [hx] at hm
  obtain ⟨b, n, c, hv, he⟩ := hm
  obtain ⟨v, hv', hmean⟩ := row_at hbx hr
  rw [hv] at hv'
  injection hv' with hv'
  obtain ⟨us, ho, hrow⟩ := hmean
  have hca := cell_own ho hv'.symm
  have e1 := Nat.eq_of_beq_eq_true hsz
  subst e1
  obtain ⟨u, hu, hur⟩ := hrow.get (List.getElem?_eq_getElem hj)
  have hc := hca j u hu
  have ok := hE.tis _ _ (tinfo_mem hi)
  obtain ⟨d, hd, hk⟩ := ok.under
  have hA : (isAgg t).run P w = .ok false w := by
    simp only [isAgg, Sem.run_bind, run_underlying hd, Result.andThen_ok]
    cases d <;> simp_all
  have hget : l.getD j [] = l[j] := by simp [hj]
  rw [hget]
  refine says_value (v := u) (w' := w) ?_ (fits_pure hur)
  simp only [Nat.zero_add] at hc
  simp [execOp, Instr.loadAt, he, Instr.sureAddr, loadVar, hA, hc]

theorem do_load_ownS (hE : E.Ok P) (hbx : Boxes S w bs bx) (hρ : ∀ x, (ρ x).mean S bs w (a.eval x)) {t : TypeId} {x : Operand} {i : TI} (hi : tinfo t E.tis = some i) (hg : i.isAgg = true) {k sz j : Nat} (hx : ρ x = .ownAt k sz j) {e : TypeId} {m : Nat} {l : List (List BV)} (hr : nth bx.r k = some (.s e m l))
    (hsz : (Nat.beq sz m && Nat.beq i.size m) = true) (hj : j < l.length) : Says P ⟨dst, .load t x, type, pos, after, guard⟩ a w (Fits S bs w (.agg ((l.getD j []).map .b))) := by
  have hm := hρ x
  rw [hx] at hm
  obtain ⟨b, n, c, hv, he⟩ := hm
  obtain ⟨v, hv', hmean⟩ := row_at hbx hr
  rw [hv] at hv'
  injection hv' with hv'
  obtain ⟨us, ho, _, hmu, hlen⟩ := hmean
  have hca := cell_own ho hv'.symm
  simp only [Bool.and_eq_true] at hsz
  have e1 := Nat.eq_of_beq_eq_true hsz.1
  have e2 := Nat.eq_of_beq_eq_true hsz.2
  subst e1
  have hgj : l[j]? = some l[j] := List.getElem?_eq_getElem hj
  have hfl := flatten_len hlen
  have hul := hmu.length
  have hxl := hlen _ (List.getElem_mem hj)
  have hle : j * sz + sz ≤ us.length := by
    rw [← hul, hfl]
    have : (j + 1) * sz ≤ l.length * sz := Nat.mul_le_mul_right _ hj
    rw [Nat.add_mul, Nat.one_mul] at this
    exact this
  have hcells := ((hmu.drop (j * sz)).take sz)
  have ee : (l.flatten.drop (j * sz)).take sz = l[j] := by
    apply List.ext_getElem?
    intro q
    rw [List.getElem?_take]
    split
    · rename_i hq
      rw [List.getElem?_drop, flatten_get hlen hgj hq]
    · rw [List.getElem?_eq_none (by omega)]
  rw [ee] at hcells
  have hca2 : CellsAt w b (j * sz) ((us.drop (j * sz)).take sz) := by
    have := (hca.drop (j * sz)).take sz
    simpa using this
  have hget : l.getD j [] = l[j] := by simp [hj]
  rw [hget]
  obtain ⟨r, hr, hrm⟩ := load_at (bs := bs) (x := .agg (l[j].map .b)) hE hi hca2 (bvs_mean hcells) (by simp; omega) (by unfold mkAV; rw [hg])
  exact says_value (v := r) (w' := w) (by simp [execOp, Instr.loadAt, he, Instr.sureAddr, hr]) (fits_pure hrm)

/-- A slice written out: the cells of the new row. -/
theorem do_buildSlice (hE : E.Ok P) {t : TypeId} {n : Nat} {ps : Array (Nat × Operand)} {s : SI} (hs : tnil t E.nils = some s) (us : List Value) (hps : (ps.toList.map fun p => (p.1, a.eval p.2)) = (us.zipIdx 0).map fun x => (x.2, x.1)) (hn : us.length = n) (hsz : ∀ u, u ∈ us → u.cells.size = s.esize) (hle : n * s.esize ≤ 1000) (h1n : 0 < n) :
    (execOp a.eval ⟨dst, .buildSlice t n ps, type, pos, after, guard⟩).run P w = .ok (.value (.slice (some ⟨w.heap.size, 0, none⟩) n n)) (w.alloc (.cells (us.map fun u => u.cells.toList).flatten.toArray s.elem)) := by
  have ok := hE.nils _ _ (tnil_mem hs)
  obtain ⟨ti, z, hti, hsize, hz, hzs, _⟩ := ok.size
  have hun := run_underlying ok.under w
  have hpe : (ps.map fun (x : Nat × Operand) => (x.1, a.eval x.2)).toList = (us.zipIdx 0).map fun x => (x.2, x.1) := by rw [← hps]; simp
  have hbig : ¬ (n * s.esize > 2 ^ 24) := by omega
  have hfill : ∀ zero : Array Value, ∃ fin, Instr.fill (fun i => some (i * s.esize, s.esize)) ((Array.range (n * s.esize)).map (zero[· % zero.size]!)) ((us.zipIdx 0).map fun x => (x.2, x.1)) = some fin ∧ fin = (us.map fun u => u.cells.toList).flatten.toArray := by
    intro zero
    obtain ⟨fin, h1, h2⟩ := fill_parts s.esize us 0 ((Array.range (n * s.esize)).map (zero[· % zero.size]!)) hsz (by simp [hn])
    refine ⟨fin, h1, ?_⟩
    apply Array.ext'
    rw [h2]
    simp
  have hrun : (Instr.buildSlice t n (ps.map fun (x : Nat × Operand) => (x.1, a.eval x.2))).run P w = .ok (.slice (some ⟨w.heap.size, 0, none⟩) n n) (w.alloc (.cells (us.map fun u => u.cells.toList).flatten.toArray s.elem)) := by
    have h0 : ¬ n * s.esize = 0 := by have := Nat.mul_pos h1n ok.pos; omega
    obtain ⟨fin, h1, h2⟩ := hfill z.cells
    simp only [Instr.buildSlice, Sem.run_bind, hun, Result.andThen_ok, sizeOf, typeInfo, run_program, hti, Sem.run_pure, hsize, hbig, if_false, h0, zeroValue, hz, hpe]
    rw [h1, h2]
    simp [newRow]
  simp only [execOp, Sem.run_bind, hrun, Result.andThen_ok, Sem.run_pure]

/-- What the parts of a slice that is written out are. -/
theorem parts_val {α : Type} (F : Nat → List (Nat × AV) → Option (List α)) (R : α → Value → Prop) (hnil : ∀ i, F i [] = some [])
    (hcons : ∀ i j v l out u, F i ((j, v) :: l) = some out → v.mean S bs w u → ∃ x r, out = x :: r ∧ F (i + 1) l = some r ∧ j = i ∧ R x u) :
    ∀ (ps : List (Nat × Operand)) (i : Nat) (out : List α), (∀ x, (ρ x).mean S bs w (a.eval x)) → F i (ps.map fun p => (p.1, ρ p.2)) = some out →
      (ps.map fun p => (p.1, a.eval p.2)) = ((ps.map fun p => a.eval p.2).zipIdx i).map (fun x => (x.2, x.1)) ∧ All2 R out (ps.map fun p => a.eval p.2)
  | [], i, out, _, h => by
    rw [List.map_nil, hnil] at h
    injection h with h
    subst h
    exact ⟨rfl, trivial⟩
  | (j, x) :: ps, i, out, hρ, h => by
    rw [List.map_cons] at h
    obtain ⟨y, r, rfl, h2, rfl, hR⟩ := hcons i j (ρ x) _ out (a.eval x) h (hρ x)
    obtain ⟨h3, h4⟩ := parts_val F R hnil hcons ps (j + 1) r hρ h2
    refine ⟨?_, hR, h4⟩
    simp only [List.map_cons, List.zipIdx_cons]
    rw [h3]

theorem toBVs_mean {A : Nat → Prop} : ∀ {cs : List CV} {xs : List BV} {us : List Value}, toBVs cs = some xs → All2 (CV.mean A w) cs us → All2 (BV.mean A w) xs us
  | [], xs, us, h, hm => by
    simp only [toBVs, Option.some.injEq] at h
    subst h
    cases us with
    | nil => trivial
    | cons u us => exact hm.elim
  | c :: cs, xs, us, h, hm => by
    cases c with
    | b x =>
      unfold toBVs at h
      split at h
      · rename_i ys hys
        injection h with h
        subst h
        cases us with
        | nil => exact hm.elim
        | cons u us => exact ⟨hm.1, toBVs_mean hys hm.2⟩
      · cases h
    | _ => cases h

theorem flat_mean {A : Nat → Prop} {n : Nat} : ∀ {l : List (List BV)} {us : List Value}, All2 (fun (x : List BV) (u : Value) => All2 (BV.mean A w) x u.cells.toList ∧ x.length = n ∧ ∀ c, c ∈ u.cells.toList → c.oneCell' = true) l us → All2 (BV.mean A w) l.flatten (us.map fun u => u.cells.toList).flatten
  | [], [], _ => trivial
  | x :: l, u :: us, ⟨h1, h2⟩ => by
    simp only [List.flatten_cons, List.map_cons]
    exact h1.1.append (flat_mean h2)
  | [], _ :: _, h => h.elim
  | _ :: _, [], h => h.elim

theorem all_cell1 : ∀ {vs : List CV} {ws : List Value}, All2 (CV.mean S w) vs ws → vs.all CV.cell1 = true → ∀ v ∈ ws, v.oneCell' = true
  | [], [], _, _, v, hv => by cases hv
  | c :: cs, u :: us, ⟨h1, h2⟩, h, v, hv => by
    simp only [List.all_cons, Bool.and_eq_true] at h
    rcases List.mem_cons.1 hv with rfl | hv
    · cases c with
      | b b =>
        cases b with
        | val x => have e : v = x := h1; subst e; exact h.1
        | nat l => obtain ⟨_, _, _, rfl, _⟩ := h1; rfl
      | sl n l => obtain ⟨_, _, rfl, _⟩ := h1; rfl
      | sll n l => obtain ⟨_, _, rfl, _⟩ := h1; rfl
      | any => cases h.1
    · exact all_cell1 h2 h.2 v hv
  | [], _ :: _, h, _, _, _ => h.elim
  | _ :: _, [], h, _, _, _ => h.elim

theorem do_buildS (hE : E.Ok P) (hρ : ∀ x, (ρ x).mean S bs w (a.eval x)) {t : TypeId} {n : Nat} {ps : Array (Nat × Operand)} {s : SI} (hs : tnil t E.nils = some s) {l : List (List BV)} (hl : partsS E s.elem s.esize 0 (ps.toList.map fun p => (p.1, ρ p.2)) = some l)
    (hc : (Nat.beq l.length n && Nat.ble (n * s.esize) 1000 && Nat.blt 0 n) = true) : Says P ⟨dst, .buildSlice t n ps, type, pos, after, guard⟩ a w (Fits S bs w (.one (.sl s.esize l))) ∧
    ∃ us : List Value, (execOp a.eval ⟨dst, .buildSlice t n ps, type, pos, after, guard⟩).run P w = .ok (.value (.slice (some ⟨w.heap.size, 0, none⟩) n n)) (w.alloc (.cells us.toArray s.elem)) ∧ n = l.length ∧ (∀ u, u ∈ us → u.oneCell' = true) ∧ All2 (BV.mean S w) l.flatten us ∧ (∀ x, x ∈ l → x.length = s.esize) := by
  simp only [Bool.and_eq_true] at hc
  have e1 := Nat.eq_of_beq_eq_true hc.1.1
  have e2 := Nat.le_of_ble_eq_true hc.1.2
  have e3 : 0 < n := Nat.le_of_ble_eq_true hc.2
  obtain ⟨h1, h2⟩ := parts_val (S := S) (bs := bs) (w := w) (a := a) (ρ := ρ) (partsS E s.elem s.esize) (fun (x : List BV) (u : Value) => All2 (BV.mean S w) x u.cells.toList ∧ x.length = s.esize ∧ ∀ c, c ∈ u.cells.toList → c.oneCell' = true) (fun _ => rfl) (by
    intro i j v l out u h hv
    unfold partsS at h
    split at h
    · rename_i cs r hcs hr
      split at h
      · rename_i x hx
        cases hb : (Nat.beq i j && Nat.beq x.length s.esize && cs.all CV.cell1 && (nilTo E s.elem v).cell1) with
        | false => rw [hb] at h; cases h
        | true =>
          rw [hb] at h
          simp only [cond_true, Option.some.injEq] at h
          subst h
          simp only [Bool.and_eq_true] at hb
          exact ⟨x, r, rfl, hr, (Nat.eq_of_beq_eq_true hb.1.1.1).symm, toBVs_mean hx (cells_mean (nilTo_mean hE hv) hcs hb.2), Nat.eq_of_beq_eq_true hb.1.1.2, all_cell1 (cells_mean (nilTo_mean hE hv) hcs hb.2) hb.1.2⟩
      · cases h
    · cases h) ps.toList 0 l hρ hl
  have hlen := h2.length
  have hsz : ∀ u, u ∈ (ps.toList.map fun p => a.eval p.2) → u.cells.size = s.esize := by
    intro u hu
    obtain ⟨k, hk⟩ := List.getElem?_of_mem hu
    have hkl : k < l.length := by rw [hlen]; exact (List.getElem?_eq_some_iff.1 hk).1
    obtain ⟨v, hv, hm, hx, _⟩ := h2.get (List.getElem?_eq_getElem hkl)
    rw [hk] at hv
    injection hv with hv
    subst hv
    have := hm.length
    simp at this
    omega
  have hrun := do_buildSlice (P := P) (dst := dst) (type := type) (pos := pos) (after := after) (guard := guard) (a := a) (w := w) hE hs (ps.toList.map fun p => a.eval p.2) h1 (n := n) (by omega) hsz e2 e3
  have hall : ∀ x, x ∈ l → x.length = s.esize := by
    intro x hx
    obtain ⟨k, hk⟩ := List.getElem?_of_mem hx
    obtain ⟨v, _, _, hx', _⟩ := h2.get hk
    exact hx'
  have h1c : ∀ u, u ∈ ((ps.toList.map fun p => a.eval p.2).map fun u => u.cells.toList).flatten → u.oneCell' = true := by
    intro u hu
    obtain ⟨c, hc1, hc2⟩ := List.mem_flatten.1 hu
    obtain ⟨v, hv, rfl⟩ := List.mem_map.1 hc1
    obtain ⟨k, hk⟩ := List.getElem?_of_mem hv
    have hkl : k < l.length := by rw [hlen]; exact (List.getElem?_eq_some_iff.1 hk).1
    obtain ⟨v', hv', _, _, h3⟩ := h2.get (List.getElem?_eq_getElem hkl)
    rw [hk] at hv'
    injection hv' with hv'
    subst hv'
    exact h3 u hc2
  refine ⟨says_value hrun ⟨Ext.alloc w _, ?_⟩, _, hrun, e1.symm, h1c, flat_mean h2, hall⟩
  have hm := flat_mean h2
  have K : Keeps S (Or' S w) w (w.alloc (.cells ((ps.toList.map fun p => a.eval p.2).map fun u => u.cells.toList).flatten.toArray s.elem)) := (Ext.alloc w _).keepsTo fun _ h _ => .inl h
  rw [← e1]
  refine row_of_cells hall (hm.imp fun _ _ h => h.keep K) h1c (fun _ => ⟨.inr (Nat.le_refl _), by simp⟩) (cellsAt_of_heap (t := s.elem) (heap_alloc_new w _)) (Nat.le_refl _)

theorem do_buildL (hE : E.Ok P) (hρ : ∀ x, (ρ x).mean S bs w (a.eval x)) {t : TypeId} {n m : Nat} {ps : Array (Nat × Operand)} {s : SI} (hs : tnil t E.nils = some s) {l : List (List (List BV))} (hl : partsL E s.elem m 0 (ps.toList.map fun p => (p.1, ρ p.2)) = some l)
    (hc : (Nat.beq l.length n && Nat.beq s.esize 1 && Nat.ble n 1000 && Nat.blt 0 n) = true) : Says P ⟨dst, .buildSlice t n ps, type, pos, after, guard⟩ a w (Fits S bs w (.one (.sll m l))) ∧
    ∃ us : List Value, (execOp a.eval ⟨dst, .buildSlice t n ps, type, pos, after, guard⟩).run P w = .ok (.value (.slice (some ⟨w.heap.size, 0, none⟩) n n)) (w.alloc (.cells us.toArray s.elem)) ∧ n = l.length ∧ All2 (Row S w m) l us := by
  simp only [Bool.and_eq_true] at hc
  have e1 := Nat.eq_of_beq_eq_true hc.1.1.1
  have e0 := Nat.eq_of_beq_eq_true hc.1.1.2
  have e2 := Nat.le_of_ble_eq_true hc.1.2
  have e3 : 0 < n := Nat.le_of_ble_eq_true hc.2
  obtain ⟨h1, h2⟩ := parts_val (S := S) (bs := bs) (w := w) (a := a) (ρ := ρ) (partsL E s.elem m) (fun (x : List (List BV)) (u : Value) => Row S w m x u) (fun _ => rfl) (by
    intro i j v l out u h hv
    unfold partsL at h
    split at h
    · rename_i m' x r hx hr
      cases hb : (Nat.beq i j && Nat.beq m' m) with
      | false => rw [hb] at h; cases h
      | true =>
        rw [hb] at h
        simp only [cond_true, Option.some.injEq] at h
        subst h
        simp only [Bool.and_eq_true] at hb
        have em := Nat.eq_of_beq_eq_true hb.2
        subst em
        have := nilTo_mean hE (t := s.elem) hv
        rw [hx] at this
        exact ⟨x, r, rfl, hr, (Nat.eq_of_beq_eq_true hb.1).symm, this⟩
    · cases h) ps.toList 0 l hρ hl
  have hlen := h2.length
  have hone : ∀ u, u ∈ (ps.toList.map fun p => a.eval p.2) → u.cells = #[u] := by
    intro u hu
    obtain ⟨k, hk⟩ := List.getElem?_of_mem hu
    have hkl : k < l.length := by rw [hlen]; exact (List.getElem?_eq_some_iff.1 hk).1
    obtain ⟨v, hv, hm⟩ := h2.get (List.getElem?_eq_getElem hkl)
    rw [hk] at hv
    injection hv with hv
    subst hv
    obtain ⟨_, _, rfl, _⟩ := hm
    rfl
  have hrun := do_buildSlice (P := P) (dst := dst) (type := type) (pos := pos) (after := after) (guard := guard) (a := a) (w := w) hE hs (ps.toList.map fun p => a.eval p.2) h1 (n := n) (by omega) (fun u hu => by rw [hone u hu, e0]; rfl) (by rw [e0]; omega) e3
  have hflat : ((ps.toList.map fun p => a.eval p.2).map fun u => u.cells.toList).flatten = ps.toList.map fun p => a.eval p.2 := by
    have : ∀ us : List Value, (∀ u, u ∈ us → u.cells = #[u]) → (us.map fun u => u.cells.toList).flatten = us := by
      intro us
      induction us with
      | nil => intro _; rfl
      | cons u us ih => intro h; rw [List.map_cons, List.flatten_cons, ih (fun v hv => h v (List.mem_cons_of_mem _ hv)), h u (List.mem_cons_self ..)]; rfl
    exact this _ hone
  rw [hflat] at hrun
  refine ⟨says_value hrun ⟨Ext.alloc w _, ?_⟩, _, hrun, e1.symm, h2⟩
  have K : Keeps S (Or' S w) w (w.alloc (.cells (ps.toList.map fun p => a.eval p.2).toArray s.elem)) := (Ext.alloc w _).keepsTo fun _ h _ => .inl h
  rw [← e1]
  refine ⟨_, _, rfl, Nat.le_refl _, fun h0 => ⟨w.heap.size, 0, rfl, .inr (Nat.le_refl _), by simp, fun i x hx => ?_⟩⟩
  obtain ⟨u, hu, hr⟩ := h2.get hx
  refine ⟨u, hr.keep K, ?_⟩
  have := cellsAt_of_heap (t := s.elem) (heap_alloc_new w (.cells (ps.toList.map fun p => a.eval p.2).toArray s.elem)) i u hu
  exact this

theorem do_buildN (hE : E.Ok P) (hρ : ∀ x, (ρ x).mean S bs w (a.eval x)) {t : TypeId} {n : Nat} {ps : Array (Nat × Operand)} {s : SI} (hs : tnil t E.nils = some s) {xs : List Int} (hl : partsN 0 (ps.toList.map fun p => (p.1, ρ p.2)) = some xs)
    (hc : (Nat.beq xs.length n && Nat.beq s.esize 1 && Nat.ble n 1000 && Nat.blt 0 n) = true) (hu : allU32 xs) : Says P ⟨dst, .buildSlice t n ps, type, pos, after, guard⟩ a w (Fits S bs w (.one (.nat (xs.map Int.toNat)))) ∧
    ((execOp a.eval ⟨dst, .buildSlice t n ps, type, pos, after, guard⟩).run P w = .ok (.value (.slice (some ⟨w.heap.size, 0, none⟩) n n)) (w.alloc (.cells ((xs.map Int.toNat).map fun (x : Nat) => Value.int .u32 (x : Int)).toArray s.elem)) ∧ n = xs.length ∧ Lim (xs.map Int.toNat)) := by
  simp only [Bool.and_eq_true] at hc
  have e1 := Nat.eq_of_beq_eq_true hc.1.1.1
  have e0 := Nat.eq_of_beq_eq_true hc.1.1.2
  have e2 := Nat.le_of_ble_eq_true hc.1.2
  have e3 : 0 < n := Nat.le_of_ble_eq_true hc.2
  obtain ⟨h1, h2⟩ := parts_val (S := S) (bs := bs) (w := w) (a := a) (ρ := ρ) partsN (fun (x : Int) (u : Value) => u = .int .u32 x) (fun _ => rfl) (by
    intro i j v l out u h hv
    unfold partsN at h
    split at h
    · rename_i x r hr
      cases hb : Nat.beq i j with
      | false => rw [hb] at h; cases h
      | true =>
        rw [hb] at h
        simp only [cond_true, Option.some.injEq] at h
        subst h
        exact ⟨x, r, rfl, hr, (Nat.eq_of_beq_eq_true hb).symm, hv⟩
    · cases h) ps.toList 0 xs hρ hl
  have hlen := h2.length
  have hval : ∀ (ys : List Int) (us : List Value), allU32 ys → All2 (fun (x : Int) (u : Value) => u = .int .u32 x) ys us → us = (ys.map Int.toNat).map (fun (x : Nat) => Value.int .u32 (x : Int)) ∧ Lim (ys.map Int.toNat) := by
    intro ys
    induction ys with
    | nil => intro us _ h; cases us with
      | nil => exact ⟨rfl, Lim.nil⟩
      | cons u us => exact h.elim
    | cons y ys ih =>
      intro us hy h
      cases us with
      | nil => exact h.elim
      | cons u us =>
        obtain ⟨h3, h4⟩ := ih us hy.2 h.2
        have hy1 := hy.1
        refine ⟨?_, Lim.cons (by rw [B_eq]; omega) h4⟩
        rw [List.map_cons, List.map_cons, ← h3]
        have hu1 : u = .int .u32 y := h.1
        rw [hu1, Int.toNat_of_nonneg hy1.1]
  obtain ⟨hus, hlim⟩ := hval xs _ hu h2
  have hone : ∀ u, u ∈ (ps.toList.map fun p => a.eval p.2) → u.cells = #[u] := by
    intro u hu
    rw [hus] at hu
    simp only [List.mem_map] at hu
    obtain ⟨x, _, rfl⟩ := hu
    rfl
  have hrun := do_buildSlice (P := P) (dst := dst) (type := type) (pos := pos) (after := after) (guard := guard) (a := a) (w := w) hE hs (ps.toList.map fun p => a.eval p.2) h1 (n := n) (by omega) (fun u hu => by rw [hone u hu, e0]; rfl) (by rw [e0]; omega) e3
  have hflat : ((ps.toList.map fun p => a.eval p.2).map fun u => u.cells.toList).flatten = (xs.map Int.toNat).map fun (x : Nat) => Value.int .u32 (x : Int) := by
    have : ∀ us : List Value, (∀ u, u ∈ us → u.cells = #[u]) → (us.map fun u => u.cells.toList).flatten = us := by
      intro us
      induction us with
      | nil => intro _; rfl
      | cons u us ih => intro h; rw [List.map_cons, List.flatten_cons, ih (fun v hv => h v (List.mem_cons_of_mem _ hv)), h u (List.mem_cons_self ..)]; rfl
    rw [this _ hone, hus]
  rw [hflat] at hrun
  refine ⟨says_value hrun ⟨Ext.alloc w _, ?_⟩, hrun, e1.symm, hlim⟩
  refine ⟨hlim, some ⟨w.heap.size, 0, none⟩, n, by simp [e1], by simp [e1], fun h0 => ⟨w.heap.size, 0, rfl, .inr (Nat.le_refl _), by simp, fun i hi => ?_⟩⟩
  refine cellsAt_of_heap (t := s.elem) (heap_alloc_new w _) i _ ?_
  have hi' : i < xs.length := by simpa using hi
  simp [hi']

end
end Go.Gm
