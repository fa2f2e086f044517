/-
  The program's environment, as the frame wants it. Plain theorems; no condition.
-/
import Derived.Test.YtihmifpdnipdmaaTypes
set_option linter.all false
namespace Go.Gm
open Go.Proofs

theorem eq_two {P : Program} {t t1 t2 : TypeId} {f1 f2 : Field} (hu : P.underlying t = some (.struct #[f1, f2])) (hf : f1.type = t1 ∧ f1.offset = 0 ∧ f1.name ≠ "_" ∧ f2.type = t2 ∧ f2.offset = 1 ∧ f2.name ≠ "_") (hh : P.stoodInHeld t = false) (hg : P.eqGuardType P.depth t = false)
    (h1 : ∀ w, (isAgg t1).run P w = .ok false w) (h2 : ∀ w, (isAgg t2).run P w = .ok false w) (w : World) (x1 x2 y1 y2 : Value) (b1 b2 : Bool) (e1 : (Op.equalIn (9998 + 1) t1 x1 y1).run P w = .ok b1 w) (e2 : (Op.equalIn (9998 + 1) t2 x2 y2).run P w = .ok b2 w) (x y : Operand) :
    (do eqGuard .eql t x y (.agg #[x1, x2]) (.agg #[y1, y2]); binOp .eql t (.agg #[x1, x2]) (.agg #[y1, y2]) : Sem Value).run P w = .ok (.bool (b1 && b2)) w ∧
    (do eqGuard .neq t x y (.agg #[x1, x2]) (.agg #[y1, y2]); binOp .neq t (.agg #[x1, x2]) (.agg #[y1, y2]) : Sem Value).run P w = .ok (.bool !(b1 && b2)) w := by
  obtain ⟨rfl, ho1, hn1, rfl, ho2, hn2⟩ := hf
  have hfo : P.fieldsOf t = #[f1, f2] := by simp [Program.fieldsOf, hu]
  have key : (Op.equalIn 10000 t (.agg #[x1, x2]) (.agg #[y1, y2])).run P w = .ok (b1 && b2) w := by
    have := run_equalIn_struct (P := P) w 9999 t #[x1, x2] #[y1, y2] (by rw [hfo]; exact hu) hh
    rw [show (10000 : Nat) = 9999 + 1 from rfl, this, hfo]
    have p1 : ∀ (a b : Value), (part f1.type #[a, b] f1.offset).run P w = .ok a w := fun a b => by simp [part, h1, ho1]
    have p2 : ∀ (a b : Value), (part f2.type #[a, b] f2.offset).run P w = .ok b w := fun a b => by simp [part, h2, ho2]
    simp only [Op.eqFields, hn1, hn2, ne_eq, not_false_eq_true, if_true, Sem.run_bind, p1, Result.andThen_ok]
    rw [show (9999 : Nat) = 9998 + 1 from rfl, e1]
    cases b1
    · simp
    · simp only [Result.andThen_ok, Bool.not_true, Bool.false_eq_true, if_false, Sem.run_bind, p2, e2]
      cases b2 <;> simp
  simp only [Sem.run_bind, run_eqGuard_agg w _ t x y _ _ hg, Result.andThen_ok, run_eql_struct, run_neq_struct, key, and_self]

theorem cells_two {S : Nat → Prop} {w : World} {u v : Value} {us : List Value} (h : All2 (CV.mean S w) [.val u, .val v] us) : us = [u, v] := by
  match us, h with
  | [a, b], h => rw [show a = u from h.1, show b = v from h.2.1]
  | [], h => exact h.elim
  | [_], h => exact h.2.elim
  | _ :: _ :: _ :: _, h => exact h.2.2.elim

theorem eqs_ok : ∀ t q, (t, q) ∈ eqs → EqOk Try.prog t q := by
  intro t q h
  simp only [eqs, List.mem_cons, List.not_mem_nil, or_false, Prod.mk.injEq] at h
  have aInt : ∀ w, (isAgg 3).run Try.prog w = .ok false w := fun w => by simp [isAgg, run_underlying Try.underlying3]
  have aBool : ∀ w, (isAgg 4).run Try.prog w = .ok false w := fun w => by simp [isAgg, run_underlying Try.underlying4]
  rcases h with ⟨rfl, rfl⟩ | h
  · intro cs ds r hr S w us vs hu hv x y
    unfold eqTurn at hr
    split at hr
    · injection hr with hr
      subst hr
      rw [cells_two hu, cells_two hv]
      exact eq_two Try.underlying23 ⟨rfl, rfl, by decide, rfl, rfl, by decide⟩ (by kernel_rfl) (by kernel_rfl) aBool aInt w _ _ _ _ _ _ (run_equalIn_bool w 9998 _ _ _ Try.underlying4) (run_equalIn_int w 9998 _ .i64 .i64 _ _ Try.underlying3) x y
    · cases hr
  obtain ⟨rfl, rfl⟩ := h
  intro cs ds r hr S w us vs hu hv x y
  unfold eqSpot at hr
  split at hr
  · injection hr with hr
    subst hr
    rw [cells_two hu, cells_two hv]
    exact eq_two Try.underlying25 ⟨rfl, rfl, by decide, rfl, rfl, by decide⟩ (by kernel_rfl) (by kernel_rfl) aInt aInt w _ _ _ _ _ _ (run_equalIn_int w 9998 _ .i64 .i64 _ _ Try.underlying3) (run_equalIn_int w 9998 _ .i64 .i64 _ _ Try.underlying3) x y
  · cases hr

abbrev Table := List (FuncId × (List RV → Option (Prop × Res)))

/-- The environment with a table of contracts. -/
def env (T : Table) : Env := { tis := tis, nils := nils, ints := ints, bools := [4], strs := [9], eqs := eqs, T := T, flds := [(38, 0, 0, 3)] }

/-- A contract that holds, of a function that has a body. -/
def Ok1 (f : FuncId) (s : List RV → Option (Prop × Res)) : Prop := Valid Try.prog f s ∧ ∃ fn, Try.prog.funcs[f]? = some fn ∧ fn.body.isNone = false ∧ (fn.name == "runtime.NumGoroutine") = false

def TabOk (T : Table) : Prop := ∀ f s, (f, s) ∈ T → Ok1 f s

theorem TabOk.nil : TabOk [] := fun _ _ h => by cases h
theorem TabOk.cons {f : FuncId} {s : List RV → Option (Prop × Res)} {T : Table} (h : Ok1 f s) (hT : TabOk T) : TabOk ((f, s) :: T) := fun g r hm => by
  rcases List.mem_cons.1 hm with e | hm
  · injection e with e1 e2
    subst e1
    subst e2
    exact h
  · exact hT g r hm
theorem TabOk.append {T T' : Table} (h : TabOk T) (h' : TabOk T') : TabOk (T ++ T') := fun f s hm => by
  rcases List.mem_append.1 hm with hm | hm
  · exact h f s hm
  · exact h' f s hm

theorem env_ok {T : Table} (h : TabOk T) : (env T).Ok Try.prog :=
  ⟨tis_ok, nils_ok, ints_ok, fun t ht => by
    simp only [env, List.mem_singleton] at ht
    subst ht
    exact Try.underlying4, fun t ht => by
    simp only [env, List.mem_singleton] at ht
    subst ht
    exact Try.underlying9, eqs_ok, h, fun t f o n hm w us => by
    simp only [env, List.mem_singleton, Prod.mk.injEq] at hm
    obtain ⟨rfl, rfl, rfl, rfl⟩ := hm
    have ha : (isAgg 36).run Try.prog w = .ok true w := by simp [isAgg, run_underlying Try.underlying36]
    have hs : (sizeOf 36).run Try.prog w = .ok 3 w := by
      obtain ⟨ti, z, h1, h2, _⟩ := (tis_ok 36 _ (by simp [tis]; rfl)).info
      simp [sizeOf, typeInfo, h1, h2]
    simp [Instr.field, run_underlying Try.underlying38, part, ha, hs, asAgg], (fun _ _ _ hm => by cases hm), (fun _ _ hm => by cases hm), (fun _ _ hm => by cases hm)⟩

/-- A contract by its body, over a table. -/
theorem ok_of {T : Table} (hT : TabOk T) {f : FuncId} {fn : Func} {c : Code} (hf : Try.prog.funcs[f]? = some fn) (hb : fn.body = some c) (hname : (fn.name == "runtime.NumGoroutine") = false) {spec : List RV → Option (Prop × Res)}
    (h : ∀ xs pre res, spec xs = some (pre, res) → pre → limR xs → xs.length ≤ fn.ntmps ∧ codeW (env T) fn.ntmps c ⟨params 0 xs, ⟨[], []⟩⟩ (retPost (env T) fn.results.toList fn.resultTypes.toList (fun r => r = res))) : Ok1 f spec :=
  ⟨valid_of_codeW (env_ok hT) mixed hf hb h, fn, hf, by rw [hb]; rfl, hname⟩

abbrev TabM := List (FuncId × Nat × (List RV → Option (Prop × TypeId × List Nat)))
abbrev TabD := List (FuncId × (List Nat → Nat → Nat → List Nat → Option (Prop × List Nat × Int)))
def OkM (f : FuncId) (s : List RV → Option (Prop × TypeId × List Nat)) : Prop := ValidM Try.prog f s ∧ ∃ fn, Try.prog.funcs[f]? = some fn ∧ fn.body.isNone = false ∧ (fn.name == "runtime.NumGoroutine") = false
def OkD (f : FuncId) (s : List Nat → Nat → Nat → List Nat → Option (Prop × List Nat × Int)) : Prop := ValidD Try.prog f s ∧ ∃ fn, Try.prog.funcs[f]? = some fn ∧ fn.body.isNone = false ∧ (fn.name == "runtime.NumGoroutine") = false

/-- The environment with rows that calls make or change. -/
def env3 (T : Table) (M : TabM) (D : TabD) : Env := { tis := tis, nils := nils, ints := ints, bools := [4], strs := [9], eqs := eqs, T := T, flds := [(38, 0, 0, 3)], M := M, D := D }

theorem env3_ok {T : Table} {M : TabM} {D : TabD} (h : TabOk T) (hM : ∀ f d s, (f, d, s) ∈ M → OkM f s) (hD : ∀ f s, (f, s) ∈ D → OkD f s) : (env3 T M D).Ok Try.prog :=
  { tis := tis_ok, nils := nils_ok, ints := ints_ok, bools := (env_ok h).bools, strs := (env_ok h).strs, eqs := eqs_ok, T := h, flds := (env_ok h).flds, M := hM, D := hD, K := (fun _ _ hm => by cases hm) }

/-- A contract by its body, over tables. -/
theorem ok_of3 {T : Table} {M : TabM} {D : TabD} (hT : TabOk T) (hM : ∀ f d s, (f, d, s) ∈ M → OkM f s) (hD : ∀ f s, (f, s) ∈ D → OkD f s) {f : FuncId} {fn : Func} {c : Code} (hf : Try.prog.funcs[f]? = some fn) (hb : fn.body = some c) (hname : (fn.name == "runtime.NumGoroutine") = false) {spec : List RV → Option (Prop × Res)}
    (h : ∀ xs pre res, spec xs = some (pre, res) → pre → limR xs → xs.length ≤ fn.ntmps ∧ codeW (env3 T M D) fn.ntmps c ⟨params 0 xs, ⟨[], []⟩⟩ (retPost (env3 T M D) fn.results.toList fn.resultTypes.toList (fun r => r = res))) : Ok1 f spec :=
  ⟨valid_of_codeW (env3_ok hT hM hD) mixed hf hb h, fn, hf, by rw [hb]; rfl, hname⟩

/-- A maker's contract by its body. -/
theorem okM_of {T : Table} (hT : TabOk T) {f : FuncId} {fn : Func} {c : Code} (hf : Try.prog.funcs[f]? = some fn) (hb : fn.body = some c) (hname : (fn.name == "runtime.NumGoroutine") = false) {t : Nat} (hres : fn.results = #[.tmp t]) {spec : List RV → Option (Prop × TypeId × List Nat)}
    (h : ∀ xs pre e l, spec xs = some (pre, e, l) → pre → limR xs → 0 < l.length ∧ xs.length ≤ fn.ntmps ∧ codeW (env T) fn.ntmps c ⟨params 0 xs, ⟨[], []⟩⟩ (ownPost t (fun r => r = .n e l))) : OkM f spec :=
  ⟨fun xs pre e l hs hp S w vs hvs => by
    obtain ⟨h1, h2, h3⟩ := h xs pre e l hs hp (limR_of hvs)
    exact makes_of_codeW (env_ok hT) mixed hf hb hres xs e l h1 h2 h3 S w vs hvs, fn, hf, by rw [hb]; rfl, hname⟩

/-- The contract of a function that changes a part of a row, by its body. -/
theorem okD_of {T : Table} (hT : TabOk T) {f : FuncId} {fn : Func} {c : Code} (hf : Try.prog.funcs[f]? = some fn) (hb : fn.body = some c) (hname : (fn.name == "runtime.NumGoroutine") = false) {t : Nat} (hres : fn.results = #[.tmp t]) (hnt : 2 ≤ fn.ntmps) {spec : List Nat → Nat → Nat → List Nat → Option (Prop × List Nat × Int)}
    (h : ∀ l lo n lv pre l' q, spec l lo n lv = some (pre, l', q) → pre → Lim l → Lim lv → ∀ e o, codeW (env T) fn.ntmps c ⟨[(0, .part 0 lo n o), (1, .one (.nat lv))], ⟨[], [.n e l]⟩⟩ (digPost t (fun v u rs => v = .val (.int .u32 q) ∧ u = .part 0 lo n o ∧ rs = [.n e l']))) : OkD f spec :=
  ⟨fun l lo n lv pre l' q hs hp S w e b N c c' vv hl hown hn hr hS => digs_of_codeW (env_ok hT) mixed hf hb hres hnt (h l lo n lv pre l' q hs hp hl hr.1) S w e b N c c' vv hl hown hn hr hS, fn, hf, by rw [hb]; rfl, hname⟩

abbrev TabK := List (FuncId × (List Nat → Int → Option (Prop × Value)))
def OkK (f : FuncId) (s : List Nat → Int → Option (Prop × Value)) : Prop := ValidK Try.prog f s ∧ ∃ fn, Try.prog.funcs[f]? = some fn ∧ fn.body.isNone = false ∧ (fn.name == "runtime.NumGoroutine") = false
/-- The environment with functions that look into rows. -/
def env4 (T : Table) (K : TabK) : Env := { tis := tis, nils := nils, ints := ints, bools := [4], strs := [9], eqs := eqs, T := T, flds := [(38, 0, 0, 3)], K := K }
theorem env4_ok {T : Table} {K : TabK} (h : TabOk T) (hK : ∀ f s, (f, s) ∈ K → OkK f s) : (env4 T K).Ok Try.prog :=
  { tis := tis_ok, nils := nils_ok, ints := ints_ok, bools := (env_ok h).bools, strs := (env_ok h).strs, eqs := eqs_ok, T := h, flds := (env_ok h).flds, M := (fun _ _ _ hm => by cases hm), D := (fun _ _ hm => by cases hm), K := hK }
theorem ok_of4 {T : Table} {K : TabK} (hT : TabOk T) (hK : ∀ f s, (f, s) ∈ K → OkK f s) {f : FuncId} {fn : Func} {c : Code} (hf : Try.prog.funcs[f]? = some fn) (hb : fn.body = some c) (hname : (fn.name == "runtime.NumGoroutine") = false) {spec : List RV → Option (Prop × Res)}
    (h : ∀ xs pre res, spec xs = some (pre, res) → pre → limR xs → xs.length ≤ fn.ntmps ∧ codeW (env4 T K) fn.ntmps c ⟨params 0 xs, ⟨[], []⟩⟩ (retPost (env4 T K) fn.results.toList fn.resultTypes.toList (fun r => r = res))) : Ok1 f spec :=
  ⟨valid_of_codeW (env4_ok hT hK) mixed hf hb h, fn, hf, by rw [hb]; rfl, hname⟩
theorem okK_of {f : FuncId} {spec : List RV → Option (Prop × Res)} (h : Ok1 f spec) {s : List Nat → Int → Option (Prop × Value)} (hs : ∀ l i pre v, s l i = some (pre, v) → spec [.one (.b (.nat l)), .one (.b (.val (.int .i64 i)))] = some (pre, .r (.one (.b (.val v))))) : OkK f s :=
  ⟨fun l i pre v e hp S w sv hr => by
    have := h.1 _ pre _ (hs l i pre v e) hp S w [sv, .int .i64 i] ⟨hr, rfl, trivial⟩
    refine this.mono ?_
    rintro en w' ⟨v', rfl, hv, he⟩
    have hv : v' = v := hv
    subst hv
    exact ⟨rfl, he⟩, h.2⟩

end Go.Gm
