/-
  The frame of all proofs of this seat, part K: from a body to a contract. Plain theorems; no condition.
-/
import Derived.Test.YtihmifpdnipdmaaCoreJ
import Derived.Deep.LoopGhost
set_option linter.all false
namespace Go.Gm
open Go.RowKit (Below)

def thenE (K : St → Prop) (Q : Exit → St → Prop) : Exit → St → Prop
  | .normal, st => K st
  | e, st => Q e st

def blockE (id : Nat) (Q : Exit → St → Prop) : Exit → St → Prop
  | .exit i, st => cond (Nat.beq i id) (Q .normal st) (Q (.exit i) st)
  | e, st => Q e st

/-- A body, by what is known of its slots and boxes. -/
def codeW (E : Env) (nt : Nat) : Code → St → (Exit → St → Prop) → Prop
  | .skip, st, Q => Q .normal st
  | .seq x y, st, Q => codeW E nt x st (thenE (fun st' => codeW E nt y st' Q) Q)
  | .cond c x y, st, Q => (match evalO st.sl c with
    | .r (.one (.b (.val (.bool b)))) => (b = true → codeW E nt x st Q) ∧ (b = false → codeW E nt y st Q)
    | _ => False)
  | .block id c, st, Q => codeW E nt c st (blockE id Q)
  | .exit id, st, Q => Q (.exit id) st
  | .ret, st, Q => Q .ret st
  | .region _ ops draw, st, Q => fits nt ops.toList = true ∧ (match draw with
    | true => drawOps E ops st (Q .normal)
    | false => seqOps E (dstOf ops) ops.toList st (Q .normal))
  | .loop c, st, Q => ∃ (ι : Type) (I : ι → St) (μ : ι → Nat) (i0 : ι), Le st (I i0) ∧ ∀ i, forceS (I i) fun sti => codeW E nt c sti (thenE (fun st' => ∃ j, μ j < μ i ∧ Le st' (I j)) Q)
  | _, _, _ => False

section
variable {P : Program} {E : Env} {S X : Nat → Prop} {w0 : World} {nt : Nat}

theorem codeW_sound (hE : E.Ok P) (hmix : P.follows .mixedOrders = true) : ∀ (c : Code) (st : St) (Q : Exit → St → Prop), codeW E nt c st Q → ∀ (a : Act) (w : World) (bs : An), Has S X w0 nt st a w bs →
    ∀ QQ : Exit → Act → World → Prop, (∀ e st' a' w' bs', Q e st' → Has S X w0 nt st' a' w' bs' → QQ e a' w') → c.wp P QQ a w
  | .skip, st, Q, h, a, w, bs, hh, QQ, hQ => wp_skip (hQ _ _ _ _ _ h hh)
  | .seq x y, st, Q, h, a, w, bs, hh, QQ, hQ => by
    refine wp_seq (codeW_sound hE hmix x st _ h a w bs hh _ ?_)
    intro e st' a' w' bs' hq hh'
    cases e with
    | normal => exact codeW_sound hE hmix y st' Q hq a' w' bs' hh' QQ hQ
    | _ => exact hQ _ _ _ _ _ hq hh'
  | .cond c x y, st, Q, h, a, w, bs, hh, QQ, hQ => by
    unfold codeW at h
    split at h
    · rename_i b hb
      have hc : a.eval c = .bool b := by
        have := eval_mean hh c
        rw [hb] at this
        exact this
      refine wp_cond_split hc (fun ht => ?_) (fun hf => ?_)
      · exact codeW_sound hE hmix x st Q (h.1 ht) a w bs hh QQ hQ
      · exact codeW_sound hE hmix y st Q (h.2 hf) a w bs hh QQ hQ
    · exact h.elim
  | .block id c, st, Q, h, a, w, bs, hh, QQ, hQ => by
    refine wp_block (codeW_sound hE hmix c st _ h a w bs hh _ ?_)
    intro e st' a' w' bs' hq hh'
    cases e with
    | exit i =>
      simp only [Exit.inBlock]
      simp only [blockE] at hq
      by_cases hi : i = id
      · subst hi
        rw [if_pos rfl]
        rw [Nat.beq_refl] at hq
        exact hQ _ _ _ _ _ hq hh'
      · rw [if_neg hi]
        have : Nat.beq i id = false := by
          cases hb : Nat.beq i id with
          | true => exact absurd (Nat.eq_of_beq_eq_true hb) hi
          | false => rfl
        rw [this] at hq
        exact hQ _ _ _ _ _ hq hh'
    | _ => exact hQ _ _ _ _ _ hq hh'
  | .exit id, st, Q, h, a, w, bs, hh, QQ, hQ => wp_exit (hQ _ _ _ _ _ h hh)
  | .ret, st, Q, h, a, w, bs, hh, QQ, hQ => wp_ret (hQ _ _ _ _ _ h hh)
  | .region id ops draw, st, Q, h, a, w, bs, hh, QQ, hQ => by
    obtain ⟨hf, h⟩ := h
    cases draw with
    | true => exact drawOps_sound hE hmix hf h hh (fun st' a' w' bs' hq hh' => hQ _ _ _ _ _ hq hh')
    | false =>
      refine wp_region_list (seqOps_sound hE ops.toList st _ hf h a w bs hh (fun st' a' w' bs' hq hh' => hQ _ _ _ _ _ hq hh') ?_)
      intro j d hj
      unfold dstOf at hj
      cases ho : ops[j]? with
      | none => rw [ho] at hj; cases hj
      | some o =>
        rw [ho] at hj
        simp only [Option.bind_some] at hj
        have hm : o ∈ ops.toList := by simpa using Array.mem_of_getElem? ho
        have := (List.all_eq_true.1 hf) o hm
        rw [hj] at this
        exact Nat.le_of_ble_eq_true this
  | .loop c, st, Q, h, a, w, bs, hh, QQ, hQ => by
    obtain ⟨ι, I, μ, i0, hle, hI⟩ := h
    refine wp_loop_ghost (fun n a w => ∃ i bs, n = μ i ∧ Has S X w0 nt (I i) a w bs) (μ i0) ⟨i0, _, rfl, hh.weaken hle⟩ ?_
    rintro n a' w' ⟨i, bs', rfl, hh'⟩
    have hIi := hI i
    rw [forceS_eq] at hIi
    refine codeW_sound hE hmix c (I i) _ hIi a' w' bs' hh' _ ?_
    intro e st' a'' w'' bs'' hq hh''
    cases e with
    | normal =>
      obtain ⟨j, hj, hl⟩ := hq
      exact ⟨μ j, hj, j, _, rfl, hh''.weaken hl⟩
    | _ => exact hQ _ _ _ _ _ hq hh''
  | .rangeFunc .., _, _, h, _, _, _, _, _, _ => h.elim
  | .scope _, _, _, h, _, _, _, _, _, _ => h.elim
  | .label _, _, _, h, _, _, _, _, _, _ => h.elim
  | .goto _, _, _, h, _, _, _, _, _, _ => h.elim
  | .refuse _, _, _, h, _, _, _, _, _, _ => h.elim

end

def params : Nat → List RV → List (Nat × AV)
  | _, [] => []
  | i, x :: l => (i, .r x) :: params (i + 1) l

/-- A slot as a result of a type. -/
def readV (E : Env) (st : St) (ty : TypeId) : AV → Option RV
  | .own k => (match nth st.bx.r k with
    | some r => (match r.cv with
      | some c => some (.one c)
      | none => none)
    | none => none)
  | v => toRV (nilTo E ty v)

def resVar (E : Env) (st : St) (ty : TypeId) : ResultVar → Option RV
  | .tmp t => readV E st ty (look t st.sl)
  | .cell t ty => (match look t st.sl, tinfo ty E.tis with
    | .ptr k off, some i => (match nth st.bx.b k with
      | some (_, cs) => (match mkAV i ((cs.drop off).take i.size), Nat.ble (off + i.size) cs.length with
        | some v, true => toRV (nilTo E ty v)
        | _, _ => none)
      | none => none)
    | _, _ => none)

def resVars (E : Env) (st : St) : List ResultVar → List TypeId → Option (List RV)
  | [], _ => some []
  | r :: l, [] => match resVar E st 0 r, resVars E st l [] with
    | some x, some xs => some (x :: xs)
    | _, _ => none
  | r :: l, t :: ts => match resVar E st t r, resVars E st l ts with
    | some x, some xs => some (x :: xs)
    | _, _ => none

def resOf (E : Env) (st : St) (rs : List ResultVar) (ts : List TypeId) : Option Res :=
  match resVars E st rs ts with
  | some [x] => some (.r x)
  | some xs => some (.t xs)
  | none => none

def retPost (E : Env) (rs : List ResultVar) (ts : List TypeId) (Post : Res → Prop) : Exit → St → Prop
  | .ret, st => (match resOf E st rs ts with
    | some r => Post r
    | none => False)
  | .normal, st => (match resOf E st rs ts with
    | some r => Post r
    | none => False)
  | _, _ => False

section
variable {P : Program} {E : Env} {S X : Nat → Prop} {w0 : World} {nt : Nat}

/-- How a result is read. -/
def resSem (tmps : Array Value) : ResultVar → Sem Value
  | .tmp t => pure (tmps.getD t undef)
  | .cell p t => do loadVar t (← asAddr (tmps.getD p undef))

theorem toRV_mean {x : AV} {y : RV} {bs : An} {A : Nat → Prop} {w : World} {v : Value} (h : x.mean A bs w v) (e : toRV x = some y) : y.mean A w v := by
  cases x <;> simp [toRV] at e
  subst e
  exact h

theorem resVar_mean (hE : E.Ok P) {st : St} {a : Act} {w : World} {bs : An} (hh : Has S X w0 nt st a w bs) {ty : TypeId} {r : ResultVar} {x : RV} (h : resVar E st ty r = some x) :
    ∃ v, (resSem a.tmps r).run P w = .ok v w ∧ x.mean (Or' S w0) w v := by
  have hA : ∀ b, Al S w0 bs st.bx.r b → b < w.heap.size → Or' S w0 b := fun b hb _ => hb.1
  cases r with
  | tmp t =>
    refine ⟨_, rfl, ?_⟩
    unfold resVar readV at h
    simp only at h
    split at h
    · rename_i k hk
      have hs := hh.slots t
      rw [hk] at hs
      split at h
      · rename_i r hr
        split at h
        · rename_i c hc
          injection h with h
          subst h
          rw [nth_eq] at hr
          obtain ⟨v, hv, hm⟩ := hh.boxes.rows.get hr
          have hs' : bs.v[k]? = some (a.tmps.getD t undef) := hs
          rw [hs'] at hv
          injection hv with hv
          subst hv
          have hlive : r.isDead = false := by cases r <;> first | rfl | cases hc
          exact Rw.cv_mean hm hc hA (fun b ho => (hh.rnew k r _ b hr hs' hlive ho).1.elim .inr (fun hx => .inl (hh.xs b hx)))
        · cases h
      · cases h
    · have hm := nilTo_mean (t := ty) hE (hh.slots t)
      exact RV.mean.keep (toRV_mean hm h) (Keeps.to hA)
  | cell p t =>
    unfold resVar at h
    simp only at h
    split at h
    · rename_i k off i hp hi
      split at h
      · rename_i u cs hk
        split at h
        · rename_i v hv hl
          have hs := hh.slots p
          rw [hp] at hs
          obtain ⟨b, hb, he⟩ := hs
          obtain ⟨b', us, hb', hheap, hm⟩ := box_at hh.boxes hk
          rw [hb] at hb'
          injection hb' with hb'
          subst hb'
          have hlen := hm.length
          have hl' := Nat.le_of_ble_eq_true hl
          have hca : CellsAt w b off ((us.drop off).take i.size) := by
            have := ((cellsAt_of_heap hheap).drop off).take i.size
            simpa using this
          obtain ⟨r, hr, hrm⟩ := load_at (bs := bs) hE hi hca ((hm.drop off).take i.size) (by simp; omega) hv
          exact ⟨r, by simp [resSem, he, asAddr, hr], RV.mean.keep (toRV_mean (nilTo_mean hE hrm) h) (Keeps.to hA)⟩
        · cases h
      · cases h
    · cases h

theorem results_mean (hE : E.Ok P) {fn : Func} {st : St} {a : Act} {w : World} {bs : An} (hh : Has S X w0 nt st a w bs) {res : Res} {ts : List TypeId} (h : resOf E st fn.results.toList ts = some res) :
    ∃ v, (results fn a.tmps).run P w = .ok v w ∧ res.mean (Or' S w0) w v := by
  have key : ∀ (l : List ResultVar) (ts : List TypeId) (xs : List RV), resVars E st l ts = some xs → ∃ vs : List Value,
      (l.mapM (resSem a.tmps)).run P w = .ok vs w ∧ All2 (RV.mean (Or' S w0) w) xs vs := by
    intro l
    induction l with
    | nil => intro ts xs hx; simp only [resVars, Option.some.injEq] at hx; subst hx; exact ⟨[], rfl, trivial⟩
    | cons r l ih =>
      intro ts xs hx
      have fin : ∀ ty ts', (match resVar E st ty r, resVars E st l ts' with | some x, some xs => some (x :: xs) | _, _ => none) = some xs → ∃ vs : List Value, ((r :: l).mapM (resSem a.tmps)).run P w = .ok vs w ∧ All2 (RV.mean (Or' S w0) w) xs vs := by
        intro ty ts' hx
        split at hx
        · rename_i y ys hy hys
          injection hx with hx
          subst hx
          obtain ⟨v, hv, hvm⟩ := resVar_mean hE hh hy
          obtain ⟨vs, hvs, hvsm⟩ := ih ts' ys hys
          refine ⟨v :: vs, ?_, hvm, hvsm⟩
          rw [List.mapM_cons]
          simp only [Sem.run_bind]
          rw [hv]
          simp only [Result.andThen_ok]
          rw [hvs]
          rfl
        · cases hx
      cases ts with
      | nil => exact fin 0 [] hx
      | cons t ts => exact fin t ts hx
  unfold resOf at h
  have hrun : ∀ vs : List Value, (fn.results.toList.mapM (resSem a.tmps)).run P w = .ok vs w →
      (results fn a.tmps).run P w = .ok (if h : vs.toArray.size = 1 then vs.toArray[0] else .tuple vs.toArray) w := by
    intro vs hvs
    unfold results
    simp only [Sem.run_bind]
    rw [Array.mapM_eq_mapM_toList]
    simp only [Sem.run_map]
    change (((fn.results.toList.mapM (resSem a.tmps)).run P w).andThen _).andThen _ = _
    rw [hvs]
    rfl
  split at h
  · rename_i x hx
    injection h with h
    subst h
    obtain ⟨vs, hvs, hm⟩ := key _ _ _ hx
    match vs, hm with
    | [v], hm => exact ⟨v, by rw [hrun _ hvs]; rfl, hm.1⟩
    | [], hm => exact hm.elim
    | _ :: _ :: _, hm => exact hm.2.elim
  · rename_i xs hx hne
    injection h with h
    subst h
    obtain ⟨vs, hvs, hm⟩ := key _ _ _ hne
    refine ⟨.tuple vs.toArray, ?_, vs, rfl, hm⟩
    rw [hrun _ hvs]
    have hlen := hm.length
    have h1 : vs.toArray.size ≠ 1 := by
      intro h1
      have : xs.length = 1 := by simp at h1; omega
      match xs, this with
      | [x], _ => exact hx x rfl
    rw [dif_neg h1]
  · cases h

/-- The start of a call. -/
theorem start_has {fn : Func} {xs : List RV} (hx : xs.length ≤ fn.ntmps) (w : World) (vs : List Value) (hvs : All2 (RV.mean S w) xs vs) :
    Has S (fun _ => False) w fn.ntmps ⟨params 0 xs, ⟨[], []⟩⟩ (Act.mk (vs.toArray ++ Array.replicate (fn.ntmps - vs.toArray.size) undef) []) w ⟨[], []⟩ := by
  have hlen := hvs.length
  refine
    { ext := ExtX.refl _ w
      xs := fun b hb => hb.elim
      boxes := ⟨trivial, trivial⟩
      nodup := List.nodup_nil
      new := fun b hb => by cases hb
      rnew := fun k r v b hr => by simp at hr
      rdist := fun k k' r r' v v' b hr => by simp at hr
      slots := fun t => ?_
      plain := fun t => ?_
      size := by simp; omega
      defers := rfl }
  · have key : ∀ (l : List RV) (i : Nat) (us : List Value), All2 (RV.mean S w) l us → (∀ k u, us[k]? = some u → (vs.toArray ++ Array.replicate (fn.ntmps - vs.toArray.size) undef).getD (i + k) undef = u) →
        (look t (params i l)).mean (Al S w ⟨[], []⟩ []) ⟨[], []⟩ w ((vs.toArray ++ Array.replicate (fn.ntmps - vs.toArray.size) undef).getD t undef) := by
      intro l
      induction l with
      | nil => intro i us _ _; trivial
      | cons x l ih =>
        intro i us hm hu
        cases us with
        | nil => exact hm.elim
        | cons u us =>
          unfold params look
          cases hb : Nat.beq t i with
          | true =>
            have e := Nat.eq_of_beq_eq_true hb
            subst e
            have := hu 0 u rfl
            rw [Nat.add_zero] at this
            rw [this]
            exact RV.mean.keep hm.1 (Keeps.to fun b hb _ => ⟨.inl hb, by simp, by simp⟩)
          | false =>
            exact ih (i + 1) us hm.2 (fun k v hk => by
              have := hu (k + 1) v (by simpa using hk)
              rwa [show i + (k + 1) = i + 1 + k by omega] at this)
    refine key xs 0 vs hvs (fun k u hk => ?_)
    rw [Nat.zero_add]
    have hkl : k < vs.length := (List.getElem?_eq_some_iff.1 hk).1
    simp only [Array.getD_eq_getD_getElem?]
    rw [Array.getElem?_append_left (by simpa using hkl)]
    simp [hk]
  · have : ∀ (l : List RV) (i : Nat), (look t (params i l)).isFresh = false := by
      intro l
      induction l with
      | nil => intro i; rfl
      | cons x l ih =>
        intro i
        unfold params look
        cases Nat.beq t i with
        | true => rfl
        | false => exact ih (i + 1)
    exact this xs 0

/-- From a body to a contract. -/
theorem calls_of_codeW (hE : E.Ok P) (hmix : P.follows .mixedOrders = true) {f : FuncId} {fn : Func} {c : Code} (hf : P.funcs[f]? = some fn) (hb : fn.body = some c) (xs : List RV) (res : Res) (hx : xs.length ≤ fn.ntmps)
    (h : codeW E fn.ntmps c ⟨params 0 xs, ⟨[], []⟩⟩ (retPost E fn.results.toList fn.resultTypes.toList (fun r => r = res))) (S : Nat → Prop) (w : World) (vs : List Value) (hvs : All2 (RV.mean S w) xs vs) : Calls P f vs.toArray w (Get S w res) := by
  refine calls_of_wp hf hb (codeW_sound (S := S) (X := fun _ => False) (w0 := w) hE hmix c _ _ h _ w ⟨[], []⟩ (start_has hx w vs hvs) _ ?_)
  intro e st' a' w' bs' hq hh'
  have fin : (match resOf E st' fn.results.toList fn.resultTypes.toList with | some r => r = res | none => False) → a'.defers = [] ∧ ∃ v, (results fn a'.tmps).run P w' = .ok v w' ∧ Get S w res (.returned v) w' := by
    intro hq
    split at hq
    · rename_i r hr
      subst hq
      obtain ⟨v, hv, hm⟩ := results_mean hE hh' hr
      refine ⟨hh'.defers, v, hv, v, rfl, ?_, hh'.ext.toExt⟩
      exact hm
    · exact hq.elim
  cases e with
  | normal => exact fin hq
  | ret => exact fin hq
  | exit i => exact hq.elim
  | goto l => exact hq.elim
  | panic ch => exact hq.elim
  | outgrown => exact hq.elim

/-- The result is a row of the call's own. -/
def ownPost (t : Nat) (Post : Rw → Prop) : Exit → St → Prop
  | .ret, st => (match look t st.sl with
    | .own k => (match nth st.bx.r k with
      | some r => Post r
      | none => False)
    | _ => False)
  | .normal, st => (match look t st.sl with
    | .own k => (match nth st.bx.r k with
      | some r => Post r
      | none => False)
    | _ => False)
  | _, _ => False

/-- From a body to a contract that gives a row. -/
theorem makes_of_codeW (hE : E.Ok P) (hmix : P.follows .mixedOrders = true) {f : FuncId} {fn : Func} {c : Code} (hf : P.funcs[f]? = some fn) (hb : fn.body = some c) {t : Nat} (hres : fn.results = #[.tmp t]) (xs : List RV) (e : TypeId) (l : List Nat) (hl : 0 < l.length) (hx : xs.length ≤ fn.ntmps)
    (h : codeW E fn.ntmps c ⟨params 0 xs, ⟨[], []⟩⟩ (ownPost t (fun r => r = .n e l))) (S : Nat → Prop) (w : World) (vs : List Value) (hvs : All2 (RV.mean S w) xs vs) :
    Calls P f vs.toArray w (fun en w' => ∃ v, en = .returned v ∧ Ext w w' ∧ (Lim l ∧ w'.ownsRow 0 e 1 v l.length (l.map fun x => .int .u32 ((x : Nat) : Int)) ∧ ∃ b, v.ownBlock = some b ∧ w.heap.size ≤ b)) := by
  refine calls_of_wp hf hb (codeW_sound (S := S) (X := fun _ => False) (w0 := w) hE hmix c _ _ h _ w ⟨[], []⟩ (start_has hx w vs hvs) _ ?_)
  intro en st' a' w' bs' hq hh'
  have fin : (match look t st'.sl with | .own k => (match nth st'.bx.r k with | some r => r = .n e l | none => False) | _ => False) → a'.defers = [] ∧ ∃ v, (results fn a'.tmps).run P w' = .ok v w' ∧ (∃ u, Ending.returned v = .returned u ∧ Ext w w' ∧ (Lim l ∧ w'.ownsRow 0 e 1 u l.length (l.map fun x => .int .u32 ((x : Nat) : Int)) ∧ ∃ b, u.ownBlock = some b ∧ w.heap.size ≤ b)) := by
    intro hq
    split at hq
    · rename_i k hk
      split at hq
      · rename_i r hr
        subst hq
        have hs := hh'.slots t
        rw [hk] at hs
        have hs' : bs'.v[k]? = some (a'.tmps.getD t undef) := hs
        rw [nth_eq] at hr
        obtain ⟨v, hv, hm⟩ := hh'.boxes.rows.get hr
        rw [hs'] at hv
        injection hv with hv
        subst hv
        obtain ⟨g, cap, cur, hvv, _⟩ := own_form hm.2 hl
        have hob : (a'.tmps.getD t undef).ownBlock = some g := by rw [hvv]; rfl
        refine ⟨hh'.defers, a'.tmps.getD t undef, by simp [results, hres], _, rfl, hh'.ext.toExt, hm.1, hm.2, g, hob, ?_⟩
        rcases (hh'.rnew k _ _ g hr hs' rfl hob).1 with h1 | h1
        · exact h1
        · exact h1.elim
      · exact hq.elim
    · exact hq.elim
  cases en with
  | normal => exact fin hq
  | ret => exact fin hq
  | exit i => exact hq.elim
  | goto l => exact hq.elim
  | panic ch => exact hq.elim
  | outgrown => exact hq.elim

/-- The result is a number, and the one row has turned. -/
def digPost (t : Nat) (Post : AV → AV → List Rw → Prop) : Exit → St → Prop
  | .ret, st => Post (look t st.sl) (look 0 st.sl) st.bx.r
  | .normal, st => Post (look t st.sl) (look 0 st.sl) st.bx.r
  | _, _ => False

/-- From a body to a contract of a function that changes a part of a row. -/
theorem digs_of_codeW (hE : E.Ok P) (hmix : P.follows .mixedOrders = true) {f : FuncId} {fn : Func} {c : Code} (hf : P.funcs[f]? = some fn) (hb : fn.body = some c) {t : Nat} (hres : fn.results = #[.tmp t]) (hnt : 2 ≤ fn.ntmps) {l lv l' : List Nat} {lo n : Nat} {q : Int}
    (h : ∀ e o, codeW E fn.ntmps c ⟨[(0, .part 0 lo n o), (1, .one (.nat lv))], ⟨[], [.n e l]⟩⟩ (digPost t (fun v u rs => v = .val (.int .u32 q) ∧ u = .part 0 lo n o ∧ rs = [.n e l'])))
    (S : Nat → Prop) (w : World) (e b N cc c' : Nat) (vv : Value) (hl : Lim l) (hown : w.ownsRow 0 e 1 (.slice (some ⟨b, 0, none⟩) N cc) l.length (l.map fun x => .int .u32 ((x : Nat) : Int))) (hn : n ≤ c') (hr : Rd S w lv vv) (hS : ¬ S b) :
    Calls P f #[.slice (some ⟨b, lo, none⟩) n c', vv] w (fun en w' => en = .returned (.int .u32 q) ∧ Lim l' ∧ w'.ownsRow 0 e 1 (.slice (some ⟨b, 0, none⟩) N cc) l'.length (l'.map fun x => .int .u32 ((x : Nat) : Int)) ∧ w.grownBy w' (some b)) := by
  refine calls_of_wp hf hb (codeW_sound (S := fun x => S x ∨ x = b) (X := fun x => x = b) (w0 := w) hE hmix c _ _ (h e (some (b, N, cc))) _ w ⟨[], [.slice (some ⟨b, 0, none⟩) N cc]⟩ ?_ _ ?_)
  · refine
      { ext := ExtX.refl _ w
        xs := fun x hx => .inr hx
        boxes := ⟨trivial, ⟨hl, hown⟩, trivial⟩
        nodup := List.nodup_nil
        new := fun b hb => by cases hb
        rnew := fun k r v b' hr hv hd ho => ?_
        rdist := fun k k' r r' v v' b' hr hr' hv hv' hd hd' hne => ?_
        slots := fun s => ?_
        plain := fun s => ?_
        size := by simp; omega
        defers := rfl }
    · have hk : k = 0 := by have := (List.getElem?_eq_some_iff.1 hv).1; simp at this; omega
      subst hk
      simp only [List.getElem?_cons_zero, Option.some.injEq] at hv
      subst hv
      injection ho with ho
      exact ⟨.inr ho.symm, by simp⟩
    · have hk : k = 0 := by have := (List.getElem?_eq_some_iff.1 hv).1; simp at this; omega
      have hk' : k' = 0 := by have := (List.getElem?_eq_some_iff.1 hv').1; simp at this; omega
      exact absurd (hk.trans hk'.symm) hne
    · unfold look
      cases h0 : Nat.beq s 0 with
      | true =>
        have := Nat.eq_of_beq_eq_true h0
        subst this
        exact ⟨b, N, cc, c', rfl, ⟨by
          simp only [Array.getD_eq_getD_getElem?]
          rw [Array.getElem?_append_left (by simp)]
          rfl, hn⟩, fun x hx => by injection hx with hx; exact hx.symm⟩
      | false =>
        unfold look
        cases h1 : Nat.beq s 1 with
        | true =>
          have := Nat.eq_of_beq_eq_true h1
          subst this
          have e1 : (#[Value.slice (some ⟨b, lo, none⟩) n c', vv] ++ Array.replicate (fn.ntmps - 2) undef).getD 1 undef = vv := by
            simp only [Array.getD_eq_getD_getElem?]
            rw [Array.getElem?_append_left (by simp)]
            rfl
          show RV.mean _ w (.one (.nat lv)) ((#[Value.slice (some ⟨b, lo, none⟩) n c', vv] ++ Array.replicate (fn.ntmps - 2) undef).getD 1 undef)
          rw [e1]
          refine Rd.keep hr (Keeps.to fun x hx _ => ⟨.inl (.inl hx), by simp, fun k r v hr hv hd ho => ?_⟩)
          have hk : k = 0 := by have := (List.getElem?_eq_some_iff.1 hv).1; simp at this; omega
          subst hk
          simp only [List.getElem?_cons_zero, Option.some.injEq] at hv
          subst hv
          injection ho with ho
          exact hS (by have h2 : b = x := ho; rw [h2]; exact hx)
        | false => trivial
    · unfold look
      cases Nat.beq s 0 with
      | true => rfl
      | false =>
        unfold look
        cases Nat.beq s 1 with
        | true => rfl
        | false => rfl
  · intro en st' a' w' bs' hq hh'
    have fin : (look t st'.sl = .val (.int .u32 q) ∧ look 0 st'.sl = .part 0 lo n (some (b, N, cc)) ∧ st'.bx.r = [.n e l']) → a'.defers = [] ∧ ∃ v, (results fn a'.tmps).run P w' = .ok v w' ∧ (Ending.returned v = .returned (.int .u32 q) ∧ Lim l' ∧ w'.ownsRow 0 e 1 (.slice (some ⟨b, 0, none⟩) N cc) l'.length (l'.map fun x => .int .u32 ((x : Nat) : Int)) ∧ w.grownBy w' (some b)) := by
      rintro ⟨h1, h2, h3⟩
      have hs := hh'.slots t
      rw [h1] at hs
      have hv : a'.tmps.getD t undef = .int .u32 q := hs
      have hs0 := hh'.slots 0
      rw [h2] at hs0
      obtain ⟨b', N', c2, c3, hb', _, hx⟩ := hs0
      have hx := hx _ rfl
      injection hx with e1 hx
      injection hx with e2 e3
      subst e1
      subst e2
      subst e3
      obtain ⟨v0, hv0, hm⟩ := hh'.boxes.rows.get (i := 0) (x := .n e l') (by rw [h3]; rfl)
      rw [hb'] at hv0
      injection hv0 with hv0
      subst hv0
      refine ⟨hh'.defers, a'.tmps.getD t undef, by simp [results, hres], by rw [hv], hm.1, hm.2, ?_⟩
      exact ⟨hh'.ext.os, hh'.ext.tape, hh'.ext.output, hh'.ext.size, fun i hi hne => hh'.ext.block i hi (fun e => hne (by rw [e]))⟩
    cases en with
    | normal => exact fin hq
    | ret => exact fin hq
    | exit i => exact hq.elim
    | goto l => exact hq.elim
    | panic ch => exact hq.elim
    | outgrown => exact hq.elim

/-- That all limbs are below the base is part of what the values mean. -/
def BV.lim : BV → Prop
  | .nat l => Lim l
  | .val _ => True
def limB : List BV → Prop
  | [] => True
  | x :: l => x.lim ∧ limB l
def limBB : List (List BV) → Prop
  | [] => True
  | x :: l => limB x ∧ limBB l
def limBBB : List (List (List BV)) → Prop
  | [] => True
  | x :: l => limBB x ∧ limBBB l
def CV.lim : CV → Prop
  | .b x => x.lim
  | .sl _ l => limBB l
  | .sll _ l => limBBB l
  | .any => True
def limC : List CV → Prop
  | [] => True
  | x :: l => x.lim ∧ limC l
def RV.lim : RV → Prop
  | .one c => c.lim
  | .agg cs => limC cs
def limR : List RV → Prop
  | [] => True
  | x :: l => x.lim ∧ limR l

theorem BV.lim_of {w : World} {x : BV} {v : Value} (h : x.mean S w v) : x.lim := by
  cases x with
  | val _ => trivial
  | nat l => exact h.1
theorem limB_of {w : World} : ∀ {xs : List BV} {vs : List Value}, All2 (BV.mean S w) xs vs → limB xs
  | [], _, _ => trivial
  | _ :: _, _ :: _, ⟨h1, h2⟩ => ⟨BV.lim_of h1, limB_of h2⟩
  | _ :: _, [], h => h.elim
theorem limBB_of {w : World} {n : Nat} {l : List (List BV)} {v : Value} (h : Row S w n l v) : limBB l := by
  obtain ⟨ad, c, _, _, hr⟩ := h
  have key : ∀ m : List (List BV), (∀ x, x ∈ m → limB x) → limBB m := by
    intro m
    induction m with
    | nil => intro _; trivial
    | cons x m ih => intro hm; exact ⟨hm x (List.mem_cons_self ..), ih fun y hy => hm y (List.mem_cons_of_mem _ hy)⟩
  refine key l fun x hx => ?_
  obtain ⟨b, off, _, _, _, hc⟩ := hr (List.length_pos_of_mem hx)
  obtain ⟨i, hi⟩ := List.getElem?_of_mem hx
  obtain ⟨us, _, _, hm, _⟩ := hc i x hi
  exact limB_of hm
theorem limBBB_of {w : World} {n : Nat} {l : List (List (List BV))} {v : Value} (h : Rows2 S w n l v) : limBBB l := by
  obtain ⟨ad, c, _, _, hr⟩ := h
  have key : ∀ m : List (List (List BV)), (∀ x, x ∈ m → limBB x) → limBBB m := by
    intro m
    induction m with
    | nil => intro _; trivial
    | cons x m ih => intro hm; exact ⟨hm x (List.mem_cons_self ..), ih fun y hy => hm y (List.mem_cons_of_mem _ hy)⟩
  refine key l fun x hx => ?_
  obtain ⟨b, off, _, _, _, hc⟩ := hr (List.length_pos_of_mem hx)
  obtain ⟨i, hi⟩ := List.getElem?_of_mem hx
  obtain ⟨u, hm, _⟩ := hc i x hi
  exact limBB_of hm
theorem CV.lim_of {w : World} {x : CV} {v : Value} (h : x.mean S w v) : x.lim := by
  cases x with
  | b x => exact BV.lim_of h
  | sl n l => exact limBB_of h
  | sll n l => exact limBBB_of h
  | any => trivial
theorem limC_of {w : World} : ∀ {xs : List CV} {vs : List Value}, All2 (CV.mean S w) xs vs → limC xs
  | [], _, _ => trivial
  | _ :: _, _ :: _, ⟨h1, h2⟩ => ⟨CV.lim_of h1, limC_of h2⟩
  | _ :: _, [], h => h.elim
theorem limR_of {w : World} : ∀ {xs : List RV} {vs : List Value}, All2 (RV.mean S w) xs vs → limR xs
  | [], _, _ => trivial
  | x :: _, v :: _, ⟨h1, h2⟩ => ⟨by
      cases x with
      | one c => exact CV.lim_of h1
      | agg cs => obtain ⟨us, _, hm⟩ := h1; exact limC_of hm, limR_of h2⟩
  | _ :: _, [], h => h.elim

/-- A contract by its body. -/
theorem valid_of_codeW (hE : E.Ok P) (hmix : P.follows .mixedOrders = true) {f : FuncId} {fn : Func} {c : Code} (hf : P.funcs[f]? = some fn) (hb : fn.body = some c) {spec : List RV → Option (Prop × Res)}
    (h : ∀ xs pre res, spec xs = some (pre, res) → pre → limR xs → xs.length ≤ fn.ntmps ∧ codeW E fn.ntmps c ⟨params 0 xs, ⟨[], []⟩⟩ (retPost E fn.results.toList fn.resultTypes.toList (fun r => r = res))) : Valid P f spec := by
  intro xs pre res hs hp S w vs hvs
  obtain ⟨h1, h2⟩ := h xs pre res hs hp (limR_of hvs)
  exact calls_of_codeW hE hmix hf hb xs res h1 h2 S w vs hvs

end
end Go.Gm
